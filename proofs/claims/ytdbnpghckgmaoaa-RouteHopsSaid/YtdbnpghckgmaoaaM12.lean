/- texts of this claim, one behind the other: TA, TB, TC, TJ1, TD, TJ2, VA, TE, TJ6. -/
import Derived.Test.YtdbnpghckgmaoaaM1
import Derived.Test.YtdbnpghckgmaoaaM8
import Derived.Test.YtdbnpghckgmaoaaM9
import Derived.Test.YtdbnpghckgmaoaaM11
import Derived.Test.YtdbnpghckgmaoaaProg
import Derived.KernelRfl
import Derived.Laws.StructEq

/- trees: nodes, edges, their order, lists of numbers. -/
namespace Go.Proofs.Ytdbnpghckgmaoaa
set_option linter.unusedVariables false
set_option linter.unusedSimpArgs false
set_option linter.unusedSectionVars false
open Go.RowKit Ab TP
attribute [local irreducible] AOps AOpsD AOp AWp put nargs AHeap.set At Free ACall thenQ blockQ roundQ RetQ Src
instance : HasTD Try.prog 3 ⟨.int .i64, 1, 8, .int .i64 0⟩ := ⟨by kernel_rfl⟩
instance : HasTD Try.prog 4 ⟨.bool, 1, 1, .bool false⟩ := ⟨by kernel_rfl⟩
instance : HasTD Try.prog 34 ⟨.slice 43, 1, 24, .slice none 0 0⟩ := ⟨by kernel_rfl⟩
instance : HasTD Try.prog 22 ⟨.slice 3, 1, 24, .slice none 0 0⟩ := ⟨by kernel_rfl⟩
instance : HasTD Try.prog 28 ⟨.int .i64, 1, 8, .int .i64 0⟩ := ⟨by kernel_rfl⟩
instance : HasPl Try.prog 43 [(0, 1), (1, 1), (2, 1)] := ⟨by kernel_rfl⟩
instance : HasTD Try.prog 43 ⟨.struct [(0, 3), (1, 3), (2, 3)], 3, 24, .agg #[.int .i64 0, .int .i64 0, .int .i64 0]⟩ := ⟨by kernel_rfl⟩
instance : HasTD Try.prog 70 ⟨.ptr 88, 1, 8, .pointer none⟩ := ⟨by kernel_rfl⟩
instance : HasTD Try.prog 84 ⟨.map 43 4, 1, 8, .map none⟩ := ⟨by kernel_rfl⟩
instance : HasPl Try.prog 88 [(0, 1), (1, 1), (2, 1), (3, 1)] := ⟨by kernel_rfl⟩
instance : HasTD Try.prog 88 ⟨.struct [(0, 22), (1, 22), (2, 22), (3, 3)], 4, 80, .agg #[.slice none 0 0, .slice none 0 0, .slice none 0 0, .int .i64 0]⟩ := ⟨by kernel_rfl⟩


def ints (l : List Int) : List Value := l.map (.int .i64)
theorem ints_length (l : List Int) : (ints l).length = l.length := by simp [ints]
theorem ints_append (a b : List Int) : ints (a ++ b) = ints a ++ ints b := by simp [ints]
theorem ints_pl (l : List Int) : (ints l).all pl1 = true := by simp [ints, pl1, plA]
theorem ints_get {l : List Int} {i : Nat} {x : Int} (h : l[i]? = some x) : (ints l)[i]? = some (.int .i64 x) := by simp [ints, h]
/-- An edge's cells. -/
def ec (e : E) : List Value := [.int .i64 e.a, .int .i64 e.b, .int .i64 e.w]
def ecs (l : List E) : List Value := l.flatMap ec
theorem ecs_length (l : List E) : (ecs l).length = l.length * 3 := by
  unfold ecs
  induction l with
  | nil => rfl
  | cons e l ih => rw [List.flatMap_cons, List.length_append, ih, List.length_cons]; show 3 + _ = _; omega
theorem ecs_append (a b : List E) : ecs (a ++ b) = ecs a ++ ecs b := by simp [ecs]
theorem ecs_pl (l : List E) : (ecs l).all pl1 = true := by simp [ecs, ec, pl1, plA]
theorem ecs_get {l : List E} {i : Nat} {e : E} (h : l[i]? = some e) : ((ecs l).drop (i * 3)).take 3 = ec e := by
  induction l generalizing i with
  | nil => simp at h
  | cons f l ih =>
    cases i with
    | zero => simp at h; subst h; simp [ecs, ec]
    | succ i =>
      rw [List.getElem?_cons_succ] at h
      have e1 : (i + 1) * 3 = 3 + i * 3 := by omega
      have e2 : ecs (f :: l) = ec f ++ ecs l := by simp [ecs]
      rw [e1, e2, ← List.drop_drop, show (ec f ++ ecs l).drop 3 = ecs l from rfl]
      exact ih h
theorem ecs_cell {l : List E} {i : Nat} {e : E} (h : l[i]? = some e) (j : Nat) (hj : j < 3) : (ecs l)[i * 3 + j]? = (ec e)[j]? := by
  rw [← ecs_get h, List.getElem?_take, if_pos hj, List.getElem?_drop]

/-! ### equal edges -/
theorem eq32 {x y : Operand} {e f : E} : ABin Try.prog .eql 43 x y (.agg (ec e).toArray) (.agg (ec f).toArray) (.bool (decide (e = f))) := by
  refine .inr ⟨rfl, rfl, rfl, fun w => ?_⟩
  have u3 := Try.underlying3
  have a3 := Try.isAgg3
  have z3 := Try.sizeOf3
  have hS : Try.prog.underlying 43 = some (.struct (Try.prog.fieldsOf 43)) := by kernel_rfl
  have hp : Try.prog.stoodInHeld 43 = false := by kernel_rfl
  have hg : Try.prog.eqGuardType Try.prog.depth 43 = false := by kernel_rfl
  rw [Sem.run_bind, run_eqGuard_agg w _ _ _ _ _ _ hg, Result.andThen_ok, run_eql_struct, show (10000 : Nat) = 9999 + 1 from rfl, run_equalIn_agg w 9999 43 _ _ hS hp]
  simp only [Program.fieldsOf, Try.underlying43]
  obtain ⟨a, b, c⟩ := e
  obtain ⟨a', b', c'⟩ := f
  unfold ec
  go_simp
  by_cases h1 : a = a' <;> by_cases h2 : b = b' <;> by_cases h3 : c = c' <;> simp [h1, h2, h3]
theorem ne32 {x y : Operand} {e f : E} : ABin Try.prog .neq 43 x y (.agg (ec e).toArray) (.agg (ec f).toArray) (.bool (!decide (e = f))) := by
  refine .inr ⟨rfl, rfl, rfl, fun w => ?_⟩
  have u3 := Try.underlying3
  have a3 := Try.isAgg3
  have z3 := Try.sizeOf3
  have hS : Try.prog.underlying 43 = some (.struct (Try.prog.fieldsOf 43)) := by kernel_rfl
  have hp : Try.prog.stoodInHeld 43 = false := by kernel_rfl
  have hg : Try.prog.eqGuardType Try.prog.depth 43 = false := by kernel_rfl
  rw [Sem.run_bind, run_eqGuard_agg w _ _ _ _ _ _ hg, Result.andThen_ok, run_neq_struct, show (10000 : Nat) = 9999 + 1 from rfl, run_equalIn_agg w 9999 43 _ _ hS hp]
  simp only [Program.fieldsOf, Try.underlying43]
  obtain ⟨a, b, c⟩ := e
  obtain ⟨a', b', c'⟩ := f
  unfold ec
  go_simp
  by_cases h1 : a = a' <;> by_cases h2 : b = b' <;> by_cases h3 : c = c' <;> simp [h1, h2, h3]
/-! ### small checks -/



theorem node15 {s : AHeap} {n : Int} : ACall Try.prog 22 [.int .i64 n] s (.bool (decide (TP.Node n))) s := by
  unfold TP.Node
  (refine ACall.make Try.func22 rfl (by kernel_rfl) (by decide) rfl (fun N hN => ?_); have hT : Top N _ := hN; (repeat' (first | (apply Ab.K.ev; exact ev_) | (apply Ab.K.aops; first | (apply Xg.s; constructor) | (apply Ab.S.guardU; (case hd => rfl); (case hb => (exact ev_; done))) | apply Ab.S.guardG) | (apply Ab.K.aop; first | (apply Og.s; constructor)) | (apply Ab.K.gk; first | (apply Xg.s; constructor) | (apply Ab.gY; case hw => assumption) | (apply Ab.gNT; case hw => assumption) | (apply Ab.gNF; case hw => assumption) | ((first | apply Ab.gD | apply Ab.gDN); all_goals (intro _ _; (first | contradiction | (exfalso; omega) | skip)))) | (apply Ab.K.awp; first | (apply Xg.s; constructor)) | (apply Ab.K.at_; exact at_) | (apply Ab.K.acall; first | assumption | fail) | (apply Ab.Rg.mk; omega) | (apply Ab.Lt.mk; first | decide | (simp; done) | (simp; omega) | fail) | (apply Ab.Get.mk; first | rfl | fail) | (apply Ab.Nm.mk; first | exact nrm_) | (apply Xg.s; constructor) | (apply Ab.asm; assumption) | rfl | infer_instance | decide)); (all_goals ((first | apply RetQ.ret | apply RetQ.normal); (case he => exact evr_); (case hg => rfl))); (all_goals first | rfl | (apply Keeps.fr; (case h => exact fr_); (case hv => exact plR.nm rfl)) | (exact bdec (by grind))))
theorem node29 {s : AHeap} {n : Int} : ACall Try.prog 20 [.int .i64 n] s (.bool (decide (TP.Node n))) s := by
  unfold TP.Node
  (refine ACall.make Try.func20 rfl (by kernel_rfl) (by decide) rfl (fun N hN => ?_); have hT : Top N _ := hN; (repeat' (first | (apply Ab.K.ev; exact ev_) | (apply Ab.K.aops; first | (apply Xg.s; constructor) | (apply Ab.S.guardU; (case hd => rfl); (case hb => (exact ev_; done))) | apply Ab.S.guardG) | (apply Ab.K.aop; first | (apply Og.s; constructor)) | (apply Ab.K.gk; first | (apply Xg.s; constructor) | (apply Ab.gY; case hw => assumption) | (apply Ab.gNT; case hw => assumption) | (apply Ab.gNF; case hw => assumption) | ((first | apply Ab.gD | apply Ab.gDN); all_goals (intro _ _; (first | contradiction | (exfalso; omega) | skip)))) | (apply Ab.K.awp; first | (apply Xg.s; constructor)) | (apply Ab.K.at_; exact at_) | (apply Ab.K.acall; first | assumption | fail) | (apply Ab.Rg.mk; omega) | (apply Ab.Lt.mk; first | decide | (simp; done) | (simp; omega) | fail) | (apply Ab.Get.mk; first | rfl | fail) | (apply Ab.Nm.mk; first | exact nrm_) | (apply Xg.s; constructor) | (apply Ab.asm; assumption) | rfl | infer_instance | decide)); (all_goals ((first | apply RetQ.ret | apply RetQ.normal); (case he => exact evr_); (case hg => rfl))); (all_goals first | rfl | (apply Keeps.fr; (case h => exact fr_); (case hv => exact plR.nm rfl)) | (exact bdec (by grind))))
theorem isNaN54 {s : AHeap} {n : Int} : ACall Try.prog 63 [.int .i64 n] s (.bool false) s := by
  (refine ACall.make Try.func63 rfl (by kernel_rfl) (by decide) rfl (fun N hN => ?_); have hT : Top N _ := hN; (repeat' (first | (apply Ab.K.ev; exact ev_) | (apply Ab.K.aops; first | (apply Xg.s; constructor) | (apply Ab.S.guardU; (case hd => rfl); (case hb => (exact ev_; done))) | apply Ab.S.guardG) | (apply Ab.K.aop; first | (apply Og.s; constructor)) | (apply Ab.K.gk; first | (apply Xg.s; constructor) | (apply Ab.gY; case hw => assumption) | (apply Ab.gNT; case hw => assumption) | (apply Ab.gNF; case hw => assumption) | ((first | apply Ab.gD | apply Ab.gDN); all_goals (intro _ _; (first | contradiction | (exfalso; omega) | skip)))) | (apply Ab.K.awp; first | (apply Xg.s; constructor)) | (apply Ab.K.at_; exact at_) | (apply Ab.K.acall; first | assumption | fail) | (apply Ab.Rg.mk; omega) | (apply Ab.Lt.mk; first | decide | (simp; done) | (simp; omega) | fail) | (apply Ab.Get.mk; first | rfl | fail) | (apply Ab.Nm.mk; first | exact nrm_) | (apply Xg.s; constructor) | (apply Ab.asm; assumption) | rfl | infer_instance | decide)); (all_goals ((first | apply RetQ.ret | apply RetQ.normal); (case he => exact evr_); (case hg => rfl))); (all_goals first | rfl | (apply Keeps.fr; (case h => exact fr_); (case hv => exact plR.nm rfl)) | (simp only [resV]; congr 1; simp)))
def cmp3 (a b : Int) : Int := if a < b then -1 else if a > b then 1 else 0
theorem cmp49 {s : AHeap} {a b : Int} : ACall Try.prog 62 [.int .i64 a, .int .i64 b] s (.int .i64 (cmp3 a b)) s := by
  unfold cmp3
  by_cases h1 : a < b
  case' pos => rw [if_pos h1]
  case' neg =>
    rw [if_neg h1]
    by_cases h2 : a > b
    case' pos => rw [if_pos h2]
    case' neg => rw [if_neg h2]
  all_goals (refine ACall.make Try.func62 rfl (by kernel_rfl) (by decide) rfl (fun N hN => ?_); have hT : Top N _ := hN; (repeat' (first | (apply Ab.K.ev; exact ev_) | (apply Ab.K.aops; first | (apply Xg.s; constructor) | (apply Ab.S.guardU; (case hd => rfl); (case hb => (exact ev_; done))) | apply Ab.S.guardG) | (apply Ab.K.aop; first | (apply Og.s; constructor)) | (apply Ab.K.gk; first | (apply Xg.s; constructor) | (apply Ab.gY; case hw => assumption) | (apply Ab.gNT; case hw => assumption) | (apply Ab.gNF; case hw => assumption) | ((first | apply Ab.gD | apply Ab.gDN); all_goals (intro _ _; (first | contradiction | (exfalso; omega) | skip)))) | (apply Ab.K.awp; first | (apply Xg.s; constructor)) | (apply Ab.K.at_; exact at_) | (apply Ab.K.acall; first | assumption | exact isNaN54) | (apply Ab.Rg.mk; omega) | (apply Ab.Lt.mk; first | decide | (simp; done) | (simp; omega) | fail) | (apply Ab.Get.mk; first | rfl | fail) | (apply Ab.Nm.mk; first | exact nrm_) | (apply Xg.s; constructor) | (apply Ab.asm; assumption) | rfl | infer_instance | decide)); (all_goals ((first | apply RetQ.ret | apply RetQ.normal); (case he => exact evr_); (case hg => rfl))); (all_goals first | rfl | (apply Keeps.fr; (case h => exact fr_); (case hv => exact plR.nm rfl)) | (simp only [resV]; congr 1; simp)))


def mayE (e : E) : Int := if e.may then 0 else 1
theorem may_y {e : E} (h : e.may) : mayE e = 0 := if_pos h
theorem may_n {e : E} (h : ¬ e.may) : mayE e = 1 := if_neg h
theorem check51 {s : AHeap} {e : E} : ACall Try.prog 58 [.agg (ec e).toArray] s (.int .i64 (mayE e)) s := by
  obtain ⟨a, b, w⟩ := e
  (refine ACall.make Try.func58 rfl (by kernel_rfl) (by decide) rfl (fun N hN => ?_); have hT : Top N _ := hN; (repeat' (first | (apply Ab.K.ev; exact ev_) | (apply Ab.K.aops; first | (apply Xg.s; constructor) | (apply Ab.S.guardU; (case hd => rfl); (case hb => (exact ev_; done))) | apply Ab.S.guardG) | (apply Ab.K.aop; first | (apply Ab.O.boxA (N + 0); (case hx => exact ev_); (case hid => exact frees_)) | (apply Og.s; constructor)) | (apply Ab.K.gk; first | (apply Xg.s; constructor) | (apply Ab.gY; case hw => assumption) | (apply Ab.gNT; case hw => assumption) | (apply Ab.gNF; case hw => assumption) | ((first | apply Ab.gD | apply Ab.gDN); all_goals (intro _ _; (first | contradiction | (exfalso; omega) | skip)))) | (apply Ab.K.awp; first | (apply Xg.s; constructor)) | (apply Ab.K.at_; exact at_) | (apply Ab.K.acall; first | assumption | first | exact node15 | exact node29) | (apply Ab.Rg.mk; omega) | (apply Ab.Lt.mk; first | decide | (simp; done) | (simp; omega) | fail) | (apply Ab.Get.mk; first | rfl | fail) | (apply Ab.Nm.mk; first | exact nrm_) | (apply Xg.s; constructor) | (apply Ab.asm; assumption) | rfl | infer_instance | decide)); (all_goals ((first | apply RetQ.ret | apply RetQ.normal); (case he => exact evr_); (case hg => rfl))); (all_goals first | rfl | (apply Keeps.fr; (case h => exact fr_); (case hv => exact plR.nm rfl)) | (first | exact congrArg (Value.int .i64) (may_y (by unfold E.may; grind)).symm | exact congrArg (Value.int .i64) (may_n (by unfold E.may; grind)).symm)))
/-- An edge's other end. -/
def other (e : E) (n : Int) : Int := if e.a = n then e.b else if e.b = n then e.a else 0
theorem other36 {s : AHeap} {e : E} {n : Int} : ACall Try.prog 40 [.agg (ec e).toArray, .int .i64 n] s (.int .i64 (other e n)) s := by
  have hq : ∀ x y, ABin Try.prog .eql 43 x y (.agg (ec e).toArray) (.agg #[.int .i64 n, .int .i64 e.b, .int .i64 e.w]) (.bool (decide (e = ⟨n, e.b, e.w⟩))) := fun x y => eq32 (f := ⟨n, e.b, e.w⟩)
  obtain ⟨a, b, w⟩ := e
  unfold other
  simp only [ec, E.mk.injEq, and_true] at *
  by_cases h1 : a = n
  · rw [if_pos h1]
    (refine ACall.make Try.func40 rfl (by kernel_rfl) (by decide) rfl (fun N hN => ?_); have hT : Top N _ := hN; (repeat' (first | (apply Ab.K.ev; exact ev_) | (apply Ab.K.aops; first | (apply Xg.s; constructor) | (apply Ab.S.guardU; (case hd => rfl); (case hb => (exact ev_; done))) | apply Ab.S.guardG) | (apply Ab.K.aop; first | (first | (apply Ab.O.boxA (N + 0); (case hx => exact ev_); (case hid => exact frees_)) | (apply Ab.O.bin; (case hx => exact ev_); (case hy => exact ev_); (case hv => exact hq _ _))) | (apply Og.s; constructor)) | (apply Ab.K.gk; first | (apply Xg.s; constructor) | (apply Ab.gY; case hw => assumption) | (apply Ab.gNT; case hw => assumption) | (apply Ab.gNF; case hw => assumption) | ((first | apply Ab.gD | apply Ab.gDN); all_goals (intro _ _; (first | contradiction | (exfalso; omega) | skip)))) | (apply Ab.K.awp; first | (apply Xg.s; constructor)) | (apply Ab.K.at_; exact at_) | (apply Ab.K.acall; first | assumption | first | exact node15 | exact node29) | (apply Ab.Rg.mk; omega) | (apply Ab.Lt.mk; first | decide | (simp; done) | (simp; omega) | fail) | (apply Ab.Get.mk; first | rfl | fail) | (apply Ab.Nm.mk; first | exact nrm_) | (apply Xg.s; constructor) | (apply Ab.asm; assumption) | rfl | infer_instance | decide)); (all_goals ((first | apply RetQ.ret | apply RetQ.normal); (case he => exact evr_); (case hg => rfl))); (all_goals first | rfl | (apply Keeps.fr; (case h => exact fr_); (case hv => exact plR.nm rfl)) | fail))
  · rw [if_neg h1]
    by_cases h2 : b = n
    · rw [if_pos h2]
      (refine ACall.make Try.func40 rfl (by kernel_rfl) (by decide) rfl (fun N hN => ?_); have hT : Top N _ := hN; (repeat' (first | (apply Ab.K.ev; exact ev_) | (apply Ab.K.aops; first | (apply Xg.s; constructor) | (apply Ab.S.guardU; (case hd => rfl); (case hb => (exact ev_; done))) | apply Ab.S.guardG) | (apply Ab.K.aop; first | (first | (apply Ab.O.boxA (N + 0); (case hx => exact ev_); (case hid => exact frees_)) | (apply Ab.O.bin; (case hx => exact ev_); (case hy => exact ev_); (case hv => exact hq _ _))) | (apply Og.s; constructor)) | (apply Ab.K.gk; first | (apply Xg.s; constructor) | (apply Ab.gY; case hw => assumption) | (apply Ab.gNT; case hw => assumption) | (apply Ab.gNF; case hw => assumption) | ((first | apply Ab.gD | apply Ab.gDN); all_goals (intro _ _; (first | contradiction | (exfalso; omega) | skip)))) | (apply Ab.K.awp; first | (apply Xg.s; constructor)) | (apply Ab.K.at_; exact at_) | (apply Ab.K.acall; first | assumption | first | exact node15 | exact node29) | (apply Ab.Rg.mk; omega) | (apply Ab.Lt.mk; first | decide | (simp; done) | (simp; omega) | fail) | (apply Ab.Get.mk; first | rfl | fail) | (apply Ab.Nm.mk; first | exact nrm_) | (apply Xg.s; constructor) | (apply Ab.asm; assumption) | rfl | infer_instance | decide)); (all_goals ((first | apply RetQ.ret | apply RetQ.normal); (case he => exact evr_); (case hg => rfl))); (all_goals first | rfl | (apply Keeps.fr; (case h => exact fr_); (case hv => exact plR.nm rfl)) | fail))
    · rw [if_neg h2]
      (refine ACall.make Try.func40 rfl (by kernel_rfl) (by decide) rfl (fun N hN => ?_); have hT : Top N _ := hN; (repeat' (first | (apply Ab.K.ev; exact ev_) | (apply Ab.K.aops; first | (apply Xg.s; constructor) | (apply Ab.S.guardU; (case hd => rfl); (case hb => (exact ev_; done))) | apply Ab.S.guardG) | (apply Ab.K.aop; first | (first | (apply Ab.O.boxA (N + 0); (case hx => exact ev_); (case hid => exact frees_)) | (apply Ab.O.bin; (case hx => exact ev_); (case hy => exact ev_); (case hv => exact hq _ _))) | (apply Og.s; constructor)) | (apply Ab.K.gk; first | (apply Xg.s; constructor) | (apply Ab.gY; case hw => assumption) | (apply Ab.gNT; case hw => assumption) | (apply Ab.gNF; case hw => assumption) | ((first | apply Ab.gD | apply Ab.gDN); all_goals (intro _ _; (first | contradiction | (exfalso; omega) | skip)))) | (apply Ab.K.awp; first | (apply Xg.s; constructor)) | (apply Ab.K.at_; exact at_) | (apply Ab.K.acall; first | assumption | first | exact node15 | exact node29) | (apply Ab.Rg.mk; omega) | (apply Ab.Lt.mk; first | decide | (simp; done) | (simp; omega) | fail) | (apply Ab.Get.mk; first | rfl | fail) | (apply Ab.Nm.mk; first | exact nrm_) | (apply Xg.s; constructor) | (apply Ab.asm; assumption) | rfl | infer_instance | decide)); (all_goals ((first | apply RetQ.ret | apply RetQ.normal); (case he => exact evr_); (case hg => rfl))); (all_goals first | rfl | (apply Keeps.fr; (case h => exact fr_); (case hv => exact plR.nm rfl)) | fail))

end Go.Proofs.Ytdbnpghckgmaoaa

/- trees: comparing, lists alike, edges in memory, who is reached. -/
namespace Go.Proofs.Ytdbnpghckgmaoaa
set_option linter.unusedVariables false
set_option linter.unusedSimpArgs false
set_option linter.unusedSectionVars false
open Go.RowKit Ab TP
attribute [local irreducible] AOps AOpsD AOp AWp put nargs AHeap.set At Free ACall thenQ blockQ roundQ RetQ Src
/-! ### the order of edges -/
def or3 (a b c : Int) : Int := if a ≠ 0 then a else if b ≠ 0 then b else c
theorem or48 {s : AHeap} {q : Nat} {a b c : Int} (hq : At s q (.cells true 1 [.int .i64 a, .int .i64 b, .int .i64 c])) : ACall Try.prog 61 [.slice (some ⟨q, 0, none⟩) 3 3] s (.int .i64 (or3 a b c)) s := by
  unfold or3
  refine ACall.make Try.func61 rfl (by kernel_rfl) (by decide) rfl (fun N hN => ?_)
  (repeat' (first | (apply Ab.K.ev; exact ev_) | (apply Ab.K.aops; first | (apply Xg.s; constructor) | apply Ab.S.guardG) | (apply Ab.K.aop; first | (apply Og.s; constructor)) | (apply Ab.K.gk; first | (apply Xg.s; constructor) | (apply Ab.gY; case hw => assumption) | (apply Ab.gNT; case hw => assumption) | (apply Ab.gNF; case hw => assumption) | ((first | apply Ab.gD | apply Ab.gDN); all_goals (intro _ _; (first | contradiction | (exfalso; omega) | skip)))) | (apply Ab.K.awp; first | (apply Xg.s; constructor)) | (apply Ab.K.at_; exact at_) | (apply Ab.K.acall; first | assumption | fail) | (apply Ab.Rg.mk; omega) | (apply Ab.Lt.mk; first | decide | (simp; done) | (simp; omega) | fail) | (apply Ab.Get.mk; first | rfl | fail) | (apply Ab.Nm.mk; first | exact nrm_) | (apply Xg.s; constructor) | (apply Ab.asm; assumption) | rfl | infer_instance | decide))
  refine AWp.loop (fun kk tm s1 => ∃ i : Nat, Ev tm (.tmp 3) (.int .i64 0) ∧ Ev tm (.tmp 6) (.slice (some ⟨q, 0, none⟩) 3 3) ∧ Ev tm (.tmp 7) (.int .i64 (3 : Nat)) ∧ Ev tm (.tmp 8) (.int .i64 i) ∧ s1 = s ∧ i ≤ 3 ∧ (1 ≤ i → a = 0) ∧ (2 ≤ i → b = 0) ∧ (3 ≤ i → c = 0) ∧ kk = 3 - i) 3 ?_ ?_
  · exact ⟨0, by exact ev_, by exact ev_, by exact ev_, by exact ev_, rfl, by omega, by omega, by omega, by omega, rfl⟩
  · rintro k tm s1 ⟨i, e3, e6, e7, e8, rfl, hi, ha, hb, hc, hk⟩
    rcases (show i = 0 ∨ i = 1 ∨ i = 2 ∨ i = 3 by omega) with rfl | rfl | rfl | rfl
    · by_cases h : a = 0
      · (repeat' (first | (apply Ab.K.ev; exact ev_) | (apply Ab.K.aops; first | (apply Xg.s; constructor) | apply Ab.S.guardG) | (apply Ab.K.aop; first | (apply Og.s; constructor)) | (apply Ab.K.gk; first | (apply Xg.s; constructor) | (apply Ab.gY; case hw => assumption) | (apply Ab.gNT; case hw => assumption) | (apply Ab.gNF; case hw => assumption) | ((first | apply Ab.gD | apply Ab.gDN); all_goals (intro _ _; (first | contradiction | (exfalso; omega) | skip)))) | (apply Ab.K.awp; first | (apply Xg.s; constructor)) | (apply Ab.K.at_; exact at_) | (apply Ab.K.acall; first | assumption | fail) | (apply Ab.Rg.mk; omega) | (apply Ab.Lt.mk; first | decide | (simp; done) | (simp; omega) | fail) | (apply Ab.Get.mk; first | rfl | fail) | (apply Ab.Nm.mk; first | exact nrm_) | (apply Xg.s; constructor) | (apply Ab.asm; assumption) | rfl | infer_instance | decide))
        exact X.roundN (3 - (0 + 1)) (by omega) ⟨0 + 1, by exact ev_, by exact ev_, by exact ev_, by exact ev_, rfl, by omega, fun _ => h, by omega, by omega, rfl⟩
      · rw [if_pos h]
        (repeat' (first | (apply Ab.K.ev; exact ev_) | (apply Ab.K.aops; first | (apply Xg.s; constructor) | apply Ab.S.guardG) | (apply Ab.K.aop; first | (apply Og.s; constructor)) | (apply Ab.K.gk; first | (apply Xg.s; constructor) | (apply Ab.gY; case hw => assumption) | (apply Ab.gNT; case hw => assumption) | (apply Ab.gNF; case hw => assumption) | ((first | apply Ab.gD | apply Ab.gDN); all_goals (intro _ _; (first | contradiction | (exfalso; omega) | skip)))) | (apply Ab.K.awp; first | (apply Xg.s; constructor)) | (apply Ab.K.at_; exact at_) | (apply Ab.K.acall; first | assumption | fail) | (apply Ab.Rg.mk; omega) | (apply Ab.Lt.mk; first | decide | (simp; done) | (simp; omega) | fail) | (apply Ab.Get.mk; first | rfl | fail) | (apply Ab.Nm.mk; first | exact nrm_) | (apply Xg.s; constructor) | (apply Ab.asm; assumption) | rfl | infer_instance | decide))
        all_goals ((first | apply RetQ.ret | apply RetQ.normal); (case he => exact evr_); (case hg => rfl))
        all_goals first | rfl | exact Keeps.self trivial
    · rw [if_neg (fun x => x (ha (by omega)))]
      by_cases h : b = 0
      · (repeat' (first | (apply Ab.K.ev; exact ev_) | (apply Ab.K.aops; first | (apply Xg.s; constructor) | apply Ab.S.guardG) | (apply Ab.K.aop; first | (apply Og.s; constructor)) | (apply Ab.K.gk; first | (apply Xg.s; constructor) | (apply Ab.gY; case hw => assumption) | (apply Ab.gNT; case hw => assumption) | (apply Ab.gNF; case hw => assumption) | ((first | apply Ab.gD | apply Ab.gDN); all_goals (intro _ _; (first | contradiction | (exfalso; omega) | skip)))) | (apply Ab.K.awp; first | (apply Xg.s; constructor)) | (apply Ab.K.at_; exact at_) | (apply Ab.K.acall; first | assumption | fail) | (apply Ab.Rg.mk; omega) | (apply Ab.Lt.mk; first | decide | (simp; done) | (simp; omega) | fail) | (apply Ab.Get.mk; first | rfl | fail) | (apply Ab.Nm.mk; first | exact nrm_) | (apply Xg.s; constructor) | (apply Ab.asm; assumption) | rfl | infer_instance | decide))
        exact X.roundN (3 - (1 + 1)) (by omega) ⟨1 + 1, by exact ev_, by exact ev_, by exact ev_, by exact ev_, rfl, by omega, fun _ => ha (by omega), fun _ => h, by omega, rfl⟩
      · rw [if_pos h]
        (repeat' (first | (apply Ab.K.ev; exact ev_) | (apply Ab.K.aops; first | (apply Xg.s; constructor) | apply Ab.S.guardG) | (apply Ab.K.aop; first | (apply Og.s; constructor)) | (apply Ab.K.gk; first | (apply Xg.s; constructor) | (apply Ab.gY; case hw => assumption) | (apply Ab.gNT; case hw => assumption) | (apply Ab.gNF; case hw => assumption) | ((first | apply Ab.gD | apply Ab.gDN); all_goals (intro _ _; (first | contradiction | (exfalso; omega) | skip)))) | (apply Ab.K.awp; first | (apply Xg.s; constructor)) | (apply Ab.K.at_; exact at_) | (apply Ab.K.acall; first | assumption | fail) | (apply Ab.Rg.mk; omega) | (apply Ab.Lt.mk; first | decide | (simp; done) | (simp; omega) | fail) | (apply Ab.Get.mk; first | rfl | fail) | (apply Ab.Nm.mk; first | exact nrm_) | (apply Xg.s; constructor) | (apply Ab.asm; assumption) | rfl | infer_instance | decide))
        all_goals ((first | apply RetQ.ret | apply RetQ.normal); (case he => exact evr_); (case hg => rfl))
        all_goals first | rfl | exact Keeps.self trivial
    · rw [if_neg (fun x => x (ha (by omega))), if_neg (fun x => x (hb (by omega)))]
      by_cases h : c = 0
      · (repeat' (first | (apply Ab.K.ev; exact ev_) | (apply Ab.K.aops; first | (apply Xg.s; constructor) | apply Ab.S.guardG) | (apply Ab.K.aop; first | (apply Og.s; constructor)) | (apply Ab.K.gk; first | (apply Xg.s; constructor) | (apply Ab.gY; case hw => assumption) | (apply Ab.gNT; case hw => assumption) | (apply Ab.gNF; case hw => assumption) | ((first | apply Ab.gD | apply Ab.gDN); all_goals (intro _ _; (first | contradiction | (exfalso; omega) | skip)))) | (apply Ab.K.awp; first | (apply Xg.s; constructor)) | (apply Ab.K.at_; exact at_) | (apply Ab.K.acall; first | assumption | fail) | (apply Ab.Rg.mk; omega) | (apply Ab.Lt.mk; first | decide | (simp; done) | (simp; omega) | fail) | (apply Ab.Get.mk; first | rfl | fail) | (apply Ab.Nm.mk; first | exact nrm_) | (apply Xg.s; constructor) | (apply Ab.asm; assumption) | rfl | infer_instance | decide))
        exact X.roundN (3 - (2 + 1)) (by omega) ⟨2 + 1, by exact ev_, by exact ev_, by exact ev_, by exact ev_, rfl, by omega, fun _ => ha (by omega), fun _ => hb (by omega), fun _ => h, rfl⟩
      · (repeat' (first | (apply Ab.K.ev; exact ev_) | (apply Ab.K.aops; first | (apply Xg.s; constructor) | apply Ab.S.guardG) | (apply Ab.K.aop; first | (apply Og.s; constructor)) | (apply Ab.K.gk; first | (apply Xg.s; constructor) | (apply Ab.gY; case hw => assumption) | (apply Ab.gNT; case hw => assumption) | (apply Ab.gNF; case hw => assumption) | ((first | apply Ab.gD | apply Ab.gDN); all_goals (intro _ _; (first | contradiction | (exfalso; omega) | skip)))) | (apply Ab.K.awp; first | (apply Xg.s; constructor)) | (apply Ab.K.at_; exact at_) | (apply Ab.K.acall; first | assumption | fail) | (apply Ab.Rg.mk; omega) | (apply Ab.Lt.mk; first | decide | (simp; done) | (simp; omega) | fail) | (apply Ab.Get.mk; first | rfl | fail) | (apply Ab.Nm.mk; first | exact nrm_) | (apply Xg.s; constructor) | (apply Ab.asm; assumption) | rfl | infer_instance | decide))
        all_goals ((first | apply RetQ.ret | apply RetQ.normal); (case he => exact evr_); (case hg => rfl))
        all_goals first | rfl | exact Keeps.self trivial
    · rw [if_neg (fun x => x (ha (by omega))), if_neg (fun x => x (hb (by omega))), hc (by omega)]
      (repeat' (first | (apply Ab.K.ev; exact ev_) | (apply Ab.K.aops; first | (apply Xg.s; constructor) | apply Ab.S.guardG) | (apply Ab.K.aop; first | (apply Og.s; constructor)) | (apply Ab.K.gk; first | (apply Xg.s; constructor) | (apply Ab.gY; case hw => assumption) | (apply Ab.gNT; case hw => assumption) | (apply Ab.gNF; case hw => assumption) | ((first | apply Ab.gD | apply Ab.gDN); all_goals (intro _ _; (first | contradiction | (exfalso; omega) | skip)))) | (apply Ab.K.awp; first | (apply Xg.s; constructor)) | (apply Ab.K.at_; exact at_) | (apply Ab.K.acall; first | assumption | fail) | (apply Ab.Rg.mk; omega) | (apply Ab.Lt.mk; first | decide | (simp; done) | (simp; omega) | fail) | (apply Ab.Get.mk; first | rfl | fail) | (apply Ab.Nm.mk; first | exact nrm_) | (apply Xg.s; constructor) | (apply Ab.asm; assumption) | rfl | infer_instance | decide))
      all_goals ((first | apply RetQ.ret | apply RetQ.normal); (case he => exact evr_); (case hg => rfl))
      all_goals first | rfl | exact Keeps.self trivial
def ord (e f : E) : Int := or3 (cmp3 e.w f.w) (cmp3 e.a f.a) (cmp3 e.b f.b)
theorem ord_pos {e f : E} : 0 < ord e f ↔ less f e := by unfold ord or3 cmp3 less; grind


/-! ### edges in memory -/
inductive EA (s : AHeap) : Value → Option Nat → List E → Prop
  | nil : EA s (.slice none 0 0) none []
  | blk {q c : Nat} {rw : Bool} {cs : List Value} {l : List E} (h : At s q (.cells rw 3 cs)) (hn : l.length ≤ c) (hx : cs.take (l.length * 3) = ecs l) : EA s (.slice (some ⟨q, 0, none⟩) l.length c) (some q) l
namespace EA
variable {s s' : AHeap} {v : Value} {on : Option Nat} {l : List E}
theorem isl (h : EA s v on l) : ∃ A c, v = .slice A l.length c := by
  cases h with
  | nil => exact ⟨_, _, rfl⟩
  | blk => exact ⟨_, _, rfl⟩
theorem of_at (h : EA s v on l) (hs : ∀ o, on = some o → s' o = s o) : EA s' v on l := by
  cases h with
  | nil => exact .nil
  | blk h a b => exact .blk (by unfold At; rw [hs _ rfl]; exact h.eq) a b
theorem lt {M : Nat} (h : EA s v on l) (hT : Top M s) : ∀ o, on = some o → o < M := by
  cases h with
  | nil => intro o e; cases e
  | blk h a b => intro o e; obtain rfl := Option.some.inj e; exact hT.lt h
theorem elt {A : Option Addr} {c n : Nat} (h : EA s (.slice A n c) on l) {i : Nat} {e : E} (hi : l[i]? = some e) : ∃ q rw cs, A = some ⟨q, 0, none⟩ ∧ on = some q ∧ n = l.length ∧ At s q (.cells rw 3 cs) ∧ i * 3 + 3 ≤ cs.length ∧ (cs.drop (i * 3)).take 3 = ec e ∧
    cs[i * 3]? = some (.int .i64 e.a) ∧ cs[i * 3 + 1]? = some (.int .i64 e.b) ∧ cs[i * 3 + 2]? = some (.int .i64 e.w) := by
  cases h with
  | nil => simp at hi
  | @blk q _ rw cs _ h a b =>
    have hlt := (List.getElem?_eq_some_iff.1 hi).1
    have hlen : l.length * 3 ≤ cs.length := by
      have := congrArg List.length b
      rw [List.length_take, ecs_length] at this
      omega
    have hc : ∀ j, j < 3 → cs[i * 3 + j]? = (ec e)[j]? := fun j hj => by
      rw [← ecs_cell hi j hj, ← b, List.getElem?_take, if_pos (by omega)]
    refine ⟨q, rw, cs, rfl, rfl, rfl, h, by omega, ?_, hc 0 (by omega), hc 1 (by omega), hc 2 (by omega)⟩
    rw [← ecs_get hi, ← b]
    apply List.ext_getElem?
    intro j
    rw [List.getElem?_take, List.getElem?_take, List.getElem?_drop, List.getElem?_drop, List.getElem?_take]
    split
    · rw [if_pos (by omega)]
    · rfl
end EA
/-! ### rows of truths -/
def bsn (n : Nat) (f : Nat → Bool) : List Value := (List.range n).map fun i => .bool (f i)
theorem bsn_length {n : Nat} {f : Nat → Bool} : (bsn n f).length = n := by simp [bsn]
theorem bsn_pl {n : Nat} {f : Nat → Bool} : (bsn n f).all pl1 = true := by simp [bsn, pl1, plA]
theorem bsn_get {n : Nat} {f : Nat → Bool} {i : Nat} (h : i < n) : (bsn n f)[i]? = some (.bool (f i)) := by simp [bsn, h]
theorem bsn_set {n : Nat} {f : Nat → Bool} {i : Nat} (h : i < n) : (bsn n f).set i (.bool true) = bsn n (fun j => decide (j = i) || f j) := by
  apply List.ext_getElem?
  intro j
  rw [List.getElem?_set]
  by_cases hj : i = j
  · subst hj; simp [bsn, h]
  · rw [if_neg hj]
    by_cases hjn : j < n
    · simp [bsn, hjn, Ne.symm hj]
    · simp [bsn, hjn]
theorem bsn_congr {n : Nat} {f f' : Nat → Bool} (h : ∀ i, i < n → f i = f' i) : bsn n f = bsn n f' := by
  unfold bsn
  exact List.map_congr_left fun i hi => by rw [h i (List.mem_range.1 hi)]
instance td51 : HasTD Try.prog 58 ⟨.array 65 4, 65, 65, .agg (bsn 65 fun _ => false).toArray⟩ := ⟨by kernel_rfl⟩
/-! ### lists alike -/
inductive NA (s : AHeap) : Value → Option Nat → List Int → Prop
  | nil : NA s (.slice none 0 0) none []
  | blk {q c : Nat} {rw : Bool} {cs : List Value} {l : List Int} (h : At s q (.cells rw 1 cs)) (hn : l.length ≤ c) (hx : cs.take l.length = ints l) : NA s (.slice (some ⟨q, 0, none⟩) l.length c) (some q) l
namespace NA
variable {s s' : AHeap} {v : Value} {on : Option Nat} {l : List Int}
theorem isl (h : NA s v on l) : ∃ A c, v = .slice A l.length c := by
  cases h with
  | nil => exact ⟨_, _, rfl⟩
  | blk => exact ⟨_, _, rfl⟩
theorem of_at (h : NA s v on l) (hs : ∀ o, on = some o → s' o = s o) : NA s' v on l := by
  cases h with
  | nil => exact .nil
  | blk h a b => exact .blk (by unfold At; rw [hs _ rfl]; exact h.eq) a b
theorem lt {M : Nat} (h : NA s v on l) (hT : Top M s) : ∀ o, on = some o → o < M := by
  cases h with
  | nil => intro o e; cases e
  | blk h a b => intro o e; obtain rfl := Option.some.inj e; exact hT.lt h
theorem elt {A : Option Addr} {c n : Nat} (h : NA s (.slice A n c) on l) {i : Nat} {x : Int} (hi : l[i]? = some x) : ∃ q rw cs, A = some ⟨q, 0, none⟩ ∧ on = some q ∧ n = l.length ∧ At s q (.cells rw 1 cs) ∧ cs[i]? = some (.int .i64 x) := by
  cases h with
  | nil => simp at hi
  | @blk q _ rw cs _ h a b =>
    have hlt := (List.getElem?_eq_some_iff.1 hi).1
    refine ⟨q, rw, cs, rfl, rfl, rfl, h, ?_⟩
    have := ints_get hi
    rw [← b, List.getElem?_take, if_pos hlt] at this
    exact this
end NA

theorem ints_take {p : List Int} {j : Nat} {y : Int} (h : p[j]? = some y) : ints (p.take (j + 1)) = ints (p.take j) ++ [.int .i64 y] := by
  rw [List.take_add_one, h, ints_append]; rfl
end Go.Proofs.Ytdbnpghckgmaoaa

/- trees: the document's reach and links. -/
namespace Go.Proofs.Ytdbnpghckgmaoaa
set_option linter.unusedVariables false
set_option linter.unusedSimpArgs false
set_option linter.unusedSectionVars false
open Go.RowKit Ab TP
attribute [local irreducible] AOps AOpsD AOp AWp put nargs AHeap.set At Free ACall thenQ blockQ roundQ RetQ Src
theorem EA.fr {s s1 : AHeap} {v : Value} {on : Option Nat} {l : List E} (h : EA s v on l) (F : Fr s1 s []) : EA s1 v on l := by
  cases h with
  | nil => exact .nil
  | blk h a b => exact .blk (At.var (F _ (by simp) _ h.eq)) a b
theorem NA.fr {s s1 : AHeap} {v : Value} {on : Option Nat} {l : List Int} (h : NA s v on l) (F : Fr s1 s []) : NA s1 v on l := by
  cases h with
  | nil => exact .nil
  | blk h a b => exact .blk (At.var (F _ (by simp) _ h.eq)) a b
theorem bsn_plR {n : Nat} {f : Nat → Bool} : plR (.agg (bsn n f).toArray) = true := by
  have := bsn_pl (n := n) (f := f)
  simpa [plR, plB] using this
attribute [local irreducible] bsn



theorem reach27 {s : AHeap} {A : Option Addr} {n c : Nat} {on : Option Nat} {l : List E} {a : Int} (h : EA s (.slice A n c) on l) (hl : ∀ e ∈ l, TP.Node e.a ∧ TP.Node e.b) (hn : n < 4611686018427387904) :
    ACall Try.prog 30 [.slice A n c, .int .i64 a] s (.agg (bsn 65 (reachB l a)).toArray) s := by
  have hnl : n = l.length := by obtain ⟨_, _, e⟩ := h.isl; injection e
  refine ACall.make Try.func30 rfl (by kernel_rfl) (by decide) rfl (fun N hN => ?_)
  have hT : Top N s := hN
  by_cases ha : TP.Node a
  · have ha' : 1 ≤ a ∧ a ≤ 64 := ha

    (repeat' (first | (apply Ab.K.ev; exact ev_) | (apply Ab.K.aops; first | (apply Xg.s; constructor) | (apply Ab.S.guardU; (case hd => rfl); (case hb => (exact ev_; done))) | apply Ab.S.guardG) | (apply Ab.K.aop; first | (first | (apply Ab.O.allocA (l := bsn 65 fun _ => false) (N + 0); (case hid => exact frees_); (case hp => exact bsn_pl)) | (apply Ab.O.allocA (l := bsn 65 fun _ => false) (N + 1); (case hid => exact frees_); (case hp => exact bsn_pl)) | (apply Ab.Qz.br; (case hz => exact bsn_pl)) | (apply Ab.O.storeAll; (case hz => rfl); (case hx => exact ev_); (case hy => exact ev_); (case hs => exact at_); (case hl => exact bsn_length); (case hc => exact bsn_length)) | (apply Ab.O.loadAll; (case ha => rfl); (case hx => exact ev_); (case hs => exact at_); (case hl => exact bsn_length))) | (apply Og.s; constructor)) | (apply Ab.K.gk; first | (apply Xg.s; constructor) | (apply Ab.gY; case hw => assumption) | (apply Ab.gNT; case hw => assumption) | (apply Ab.gNF; case hw => assumption) | ((first | apply Ab.gD | apply Ab.gDN); all_goals (intro _ _; (first | contradiction | (exfalso; omega) | skip)))) | (apply Ab.K.awp; first | (apply Xg.s; constructor)) | (apply Ab.K.at_; exact at_) | (apply Ab.K.acall; first | assumption | exact node15) | (apply Ab.Rg.mk; omega) | (apply Ab.Lt.mk; first | decide | (simp; done) | (simp; omega) | (rw [bsn_length]; omega)) | (apply Ab.Get.mk; first | rfl | fail) | (apply Ab.Nm.mk; first | exact bsn_set (by omega) | exact nrm_) | (apply Xg.s; constructor) | (apply Ab.asm; assumption) | rfl | infer_instance | decide))
    refine AWp.loop (fun kk tm s1 => ∃ (j : Nat) (r : Nat → Bool), Ev tm (.tmp 0) (.slice A n c) ∧ Ev tm (.tmp 4) (.pointer (some ⟨N + 0, 0, none⟩)) ∧ Ev tm (.tmp 5) (.pointer (some ⟨N + 1, 0, none⟩)) ∧ Ev tm (.tmp 6) (.int .i64 j) ∧ At s1 (N + 0) (.cells true 1 (bsn 65 fun _ => false)) ∧ At s1 (N + 1) (.cells true 1 (bsn 65 r)) ∧ Fr s1 s [] ∧ Rnd l a j r ∧ j ≤ 64 ∧ kk = 64 - j) 64 ?_ ?_
    · refine ⟨0, fun j => decide (j = a.toNat) || false, by exact ev_, by exact ev_, by exact ev_, by exact ev_, by exact at_, by exact at_, by exact fr_, Rnd.start ha (fun i => ?_), by omega, rfl⟩
      simp; omega
    · rintro kk tm s1 ⟨j, r, e0, e4, e5, e6, a4, a5, F, R, hj, hkk⟩
      by_cases hlt : j < 64
      · (repeat' (first | (apply Ab.K.ev; exact ev_) | (apply Ab.K.aops; first | (apply Xg.s; constructor) | (apply Ab.S.guardU; (case hd => rfl); (case hb => (exact ev_; done))) | apply Ab.S.guardG) | (apply Ab.K.aop; first | (first | (apply Ab.O.allocA (l := bsn 65 fun _ => false) (N + 0); (case hid => exact frees_); (case hp => exact bsn_pl)) | (apply Ab.O.allocA (l := bsn 65 fun _ => false) (N + 1); (case hid => exact frees_); (case hp => exact bsn_pl)) | (apply Ab.Qz.br; (case hz => exact bsn_pl)) | (apply Ab.O.storeAll; (case hz => rfl); (case hx => exact ev_); (case hy => exact ev_); (case hs => exact at_); (case hl => exact bsn_length); (case hc => exact bsn_length)) | (apply Ab.O.loadAll; (case ha => rfl); (case hx => exact ev_); (case hs => exact at_); (case hl => exact bsn_length))) | (apply Og.s; constructor)) | (apply Ab.K.gk; first | (apply Xg.s; constructor) | (apply Ab.gY; case hw => assumption) | (apply Ab.gNT; case hw => assumption) | (apply Ab.gNF; case hw => assumption) | ((first | apply Ab.gD | apply Ab.gDN); all_goals (intro _ _; (first | contradiction | (exfalso; omega) | skip)))) | (apply Ab.K.awp; first | (apply Xg.s; constructor)) | (apply Ab.K.at_; exact at_) | (apply Ab.K.acall; first | assumption | exact node15) | (apply Ab.Rg.mk; omega) | (apply Ab.Lt.mk; first | decide | (simp; done) | (simp; omega) | (rw [bsn_length]; omega)) | (apply Ab.Get.mk; first | rfl | fail) | (apply Ab.Nm.mk; first | exact bsn_set (by omega) | exact nrm_) | (apply Xg.s; constructor) | (apply Ab.asm; assumption) | rfl | infer_instance | decide))
        refine AWp.loop (fun k2 tm s1 => ∃ (i : Nat) (r : Nat → Bool), Ev tm (.tmp 0) (.slice A n c) ∧ Ev tm (.tmp 4) (.pointer (some ⟨N + 0, 0, none⟩)) ∧ Ev tm (.tmp 5) (.pointer (some ⟨N + 1, 0, none⟩)) ∧ Ev tm (.tmp 6) (.int .i64 j) ∧ Ev tm (.tmp 7) (.int .i64 i) ∧ At s1 (N + 0) (.cells true 1 (bsn 65 fun _ => false)) ∧ At s1 (N + 1) (.cells true 1 (bsn 65 r)) ∧ Fr s1 s [] ∧ Mid l a j i r ∧ i ≤ n ∧ k2 = n - i) n ?_ ?_
        · exact ⟨0, r, by exact ev_, by exact ev_, by exact ev_, by exact ev_, by exact ev_, a4, a5, F, R.mid, by omega, rfl⟩
        clear a4 a5 F R e0 e4 e5 e6
        rintro k2 tm s1 ⟨i, r, e0, e4, e5, e6, e7, a4, a5, F, M, hi, hk2⟩
        by_cases hin : i < n
        · have hi' : l[i]? = some (l[i]'(by omega)) := List.getElem?_eq_getElem (by omega)
          obtain ⟨e, hee⟩ : ∃ e, e = l[i]'(by omega) := ⟨_, rfl⟩
          rw [← hee] at hi'
          have hne := hl e (List.mem_of_getElem? hi')
          have n1 : 1 ≤ e.a ∧ e.a ≤ 64 := hne.1
          have n2 : 1 ≤ e.b ∧ e.b ≤ 64 := hne.2
          obtain ⟨q, rw1, cs, rfl, hon, _, hq, _, _, g0, g1, _⟩ := (h.fr F).elt hi'
          have hqN := h.lt hT q hon
          have ga := bsn_get (n := 65) (f := r) (i := e.a.toNat) (by omega)
          have gb := bsn_get (n := 65) (f := r) (i := e.b.toNat) (by omega)
          cases h1 : r e.a.toNat
          · rw [h1] at ga
            cases h2 : r e.b.toNat
            · rw [h2] at gb
              (repeat' (first | (apply Ab.K.ev; exact ev_) | (apply Ab.K.aops; first | (apply Xg.s; constructor) | (apply Ab.S.guardU; (case hd => rfl); (case hb => (exact ev_; done))) | apply Ab.S.guardG) | (apply Ab.K.aop; first | (first | (apply Ab.O.allocA (l := bsn 65 fun _ => false) (N + 0); (case hid => exact frees_); (case hp => exact bsn_pl)) | (apply Ab.O.allocA (l := bsn 65 fun _ => false) (N + 1); (case hid => exact frees_); (case hp => exact bsn_pl)) | (apply Ab.Qz.br; (case hz => exact bsn_pl)) | (apply Ab.O.storeAll; (case hz => rfl); (case hx => exact ev_); (case hy => exact ev_); (case hs => exact at_); (case hl => exact bsn_length); (case hc => exact bsn_length)) | (apply Ab.O.loadAll; (case ha => rfl); (case hx => exact ev_); (case hs => exact at_); (case hl => exact bsn_length))) | (apply Og.s; constructor)) | (apply Ab.K.gk; first | (apply Xg.s; constructor) | (apply Ab.gY; case hw => assumption) | (apply Ab.gNT; case hw => assumption) | (apply Ab.gNF; case hw => assumption) | ((first | apply Ab.gD | apply Ab.gDN); all_goals (intro _ _; (first | contradiction | (exfalso; omega) | skip)))) | (apply Ab.K.awp; first | (apply Xg.s; constructor)) | (apply Ab.K.at_; exact at_) | (apply Ab.K.acall; first | assumption | exact node15) | (apply Ab.Rg.mk; omega) | (apply Ab.Lt.mk; first | decide | (simp; done) | (simp; omega) | (rw [bsn_length]; omega)) | (apply Ab.Get.mk; first | rfl | first | exact ga | exact gb | (rw [Int.toNat_natCast]; first | exact g0 | exact g1)) | (apply Ab.Nm.mk; first | exact bsn_set (by omega) | exact nrm_) | (apply Xg.s; constructor) | (apply Ab.asm; assumption) | rfl | infer_instance | decide))
              exact X.roundN (n - (i + 1)) (by omega) ⟨i + 1, r, by exact ev_, by exact ev_, by exact ev_, by exact ev_, by exact ev_, a4, a5, F, M.skip hi' h1 h2, by omega, rfl⟩
            · rw [h2] at gb
              (repeat' (first | (apply Ab.K.ev; exact ev_) | (apply Ab.K.aops; first | (apply Xg.s; constructor) | (apply Ab.S.guardU; (case hd => rfl); (case hb => (exact ev_; done))) | apply Ab.S.guardG) | (apply Ab.K.aop; first | (first | (apply Ab.O.allocA (l := bsn 65 fun _ => false) (N + 0); (case hid => exact frees_); (case hp => exact bsn_pl)) | (apply Ab.O.allocA (l := bsn 65 fun _ => false) (N + 1); (case hid => exact frees_); (case hp => exact bsn_pl)) | (apply Ab.Qz.br; (case hz => exact bsn_pl)) | (apply Ab.O.storeAll; (case hz => rfl); (case hx => exact ev_); (case hy => exact ev_); (case hs => exact at_); (case hl => exact bsn_length); (case hc => exact bsn_length)) | (apply Ab.O.loadAll; (case ha => rfl); (case hx => exact ev_); (case hs => exact at_); (case hl => exact bsn_length))) | (apply Og.s; constructor)) | (apply Ab.K.gk; first | (apply Xg.s; constructor) | (apply Ab.gY; case hw => assumption) | (apply Ab.gNT; case hw => assumption) | (apply Ab.gNF; case hw => assumption) | ((first | apply Ab.gD | apply Ab.gDN); all_goals (intro _ _; (first | contradiction | (exfalso; omega) | skip)))) | (apply Ab.K.awp; first | (apply Xg.s; constructor)) | (apply Ab.K.at_; exact at_) | (apply Ab.K.acall; first | assumption | exact node15) | (apply Ab.Rg.mk; omega) | (apply Ab.Lt.mk; first | decide | (simp; done) | (simp; omega) | (rw [bsn_length]; omega)) | (apply Ab.Get.mk; first | rfl | first | exact ga | exact gb | (rw [Int.toNat_natCast]; first | exact g0 | exact g1)) | (apply Ab.Nm.mk; first | exact bsn_set (by omega) | exact nrm_) | (apply Xg.s; constructor) | (apply Ab.asm; assumption) | rfl | infer_instance | decide))
              exact X.roundN (n - (i + 1)) (by omega) ⟨i + 1, _, by exact ev_, by exact ev_, by exact ev_, by exact ev_, by exact ev_, by exact at_, At.hit, by exact fr_, M.next hi' hne (.inr h2), by omega, rfl⟩
          · rw [h1] at ga
            (repeat' (first | (apply Ab.K.ev; exact ev_) | (apply Ab.K.aops; first | (apply Xg.s; constructor) | (apply Ab.S.guardU; (case hd => rfl); (case hb => (exact ev_; done))) | apply Ab.S.guardG) | (apply Ab.K.aop; first | (first | (apply Ab.O.allocA (l := bsn 65 fun _ => false) (N + 0); (case hid => exact frees_); (case hp => exact bsn_pl)) | (apply Ab.O.allocA (l := bsn 65 fun _ => false) (N + 1); (case hid => exact frees_); (case hp => exact bsn_pl)) | (apply Ab.Qz.br; (case hz => exact bsn_pl)) | (apply Ab.O.storeAll; (case hz => rfl); (case hx => exact ev_); (case hy => exact ev_); (case hs => exact at_); (case hl => exact bsn_length); (case hc => exact bsn_length)) | (apply Ab.O.loadAll; (case ha => rfl); (case hx => exact ev_); (case hs => exact at_); (case hl => exact bsn_length))) | (apply Og.s; constructor)) | (apply Ab.K.gk; first | (apply Xg.s; constructor) | (apply Ab.gY; case hw => assumption) | (apply Ab.gNT; case hw => assumption) | (apply Ab.gNF; case hw => assumption) | ((first | apply Ab.gD | apply Ab.gDN); all_goals (intro _ _; (first | contradiction | (exfalso; omega) | skip)))) | (apply Ab.K.awp; first | (apply Xg.s; constructor)) | (apply Ab.K.at_; exact at_) | (apply Ab.K.acall; first | assumption | exact node15) | (apply Ab.Rg.mk; omega) | (apply Ab.Lt.mk; first | decide | (simp; done) | (simp; omega) | (rw [bsn_length]; omega)) | (apply Ab.Get.mk; first | rfl | first | exact ga | exact gb | (rw [Int.toNat_natCast]; first | exact g0 | exact g1)) | (apply Ab.Nm.mk; first | exact bsn_set (by omega) | exact nrm_) | (apply Xg.s; constructor) | (apply Ab.asm; assumption) | rfl | infer_instance | decide))
            exact X.roundN (n - (i + 1)) (by omega) ⟨i + 1, _, by exact ev_, by exact ev_, by exact ev_, by exact ev_, by exact ev_, by exact at_, At.hit, by exact fr_, M.next hi' hne (.inl h1), by omega, rfl⟩
        · (repeat' (first | (apply Ab.K.ev; exact ev_) | (apply Ab.K.aops; first | (apply Xg.s; constructor) | (apply Ab.S.guardU; (case hd => rfl); (case hb => (exact ev_; done))) | apply Ab.S.guardG) | (apply Ab.K.aop; first | (first | (apply Ab.O.allocA (l := bsn 65 fun _ => false) (N + 0); (case hid => exact frees_); (case hp => exact bsn_pl)) | (apply Ab.O.allocA (l := bsn 65 fun _ => false) (N + 1); (case hid => exact frees_); (case hp => exact bsn_pl)) | (apply Ab.Qz.br; (case hz => exact bsn_pl)) | (apply Ab.O.storeAll; (case hz => rfl); (case hx => exact ev_); (case hy => exact ev_); (case hs => exact at_); (case hl => exact bsn_length); (case hc => exact bsn_length)) | (apply Ab.O.loadAll; (case ha => rfl); (case hx => exact ev_); (case hs => exact at_); (case hl => exact bsn_length))) | (apply Og.s; constructor)) | (apply Ab.K.gk; first | (apply Xg.s; constructor) | (apply Ab.gY; case hw => assumption) | (apply Ab.gNT; case hw => assumption) | (apply Ab.gNF; case hw => assumption) | ((first | apply Ab.gD | apply Ab.gDN); all_goals (intro _ _; (first | contradiction | (exfalso; omega) | skip)))) | (apply Ab.K.awp; first | (apply Xg.s; constructor)) | (apply Ab.K.at_; exact at_) | (apply Ab.K.acall; first | assumption | exact node15) | (apply Ab.Rg.mk; omega) | (apply Ab.Lt.mk; first | decide | (simp; done) | (simp; omega) | (rw [bsn_length]; omega)) | (apply Ab.Get.mk; first | rfl | first | exact ga | exact gb | (rw [Int.toNat_natCast]; first | exact g0 | exact g1)) | (apply Ab.Nm.mk; first | exact bsn_set (by omega) | exact nrm_) | (apply Xg.s; constructor) | (apply Ab.asm; assumption) | rfl | infer_instance | decide))
          exact X.roundN (64 - (j + 1)) (by omega) ⟨j + 1, r, by exact ev_, by exact ev_, by exact ev_, by exact ev_, a4, a5, F, M.rnd (by omega), by omega, rfl⟩
      · have hr := R.done hl ha (by omega)
        rw [← bsn_congr (n := 65) (fun i _ => hr i)]
        (repeat' (first | (apply Ab.K.ev; exact ev_) | (apply Ab.K.aops; first | (apply Xg.s; constructor) | (apply Ab.S.guardU; (case hd => rfl); (case hb => (exact ev_; done))) | apply Ab.S.guardG) | (apply Ab.K.aop; first | (first | (apply Ab.O.allocA (l := bsn 65 fun _ => false) (N + 0); (case hid => exact frees_); (case hp => exact bsn_pl)) | (apply Ab.O.allocA (l := bsn 65 fun _ => false) (N + 1); (case hid => exact frees_); (case hp => exact bsn_pl)) | (apply Ab.Qz.br; (case hz => exact bsn_pl)) | (apply Ab.O.storeAll; (case hz => rfl); (case hx => exact ev_); (case hy => exact ev_); (case hs => exact at_); (case hl => exact bsn_length); (case hc => exact bsn_length)) | (apply Ab.O.loadAll; (case ha => rfl); (case hx => exact ev_); (case hs => exact at_); (case hl => exact bsn_length))) | (apply Og.s; constructor)) | (apply Ab.K.gk; first | (apply Xg.s; constructor) | (apply Ab.gY; case hw => assumption) | (apply Ab.gNT; case hw => assumption) | (apply Ab.gNF; case hw => assumption) | ((first | apply Ab.gD | apply Ab.gDN); all_goals (intro _ _; (first | contradiction | (exfalso; omega) | skip)))) | (apply Ab.K.awp; first | (apply Xg.s; constructor)) | (apply Ab.K.at_; exact at_) | (apply Ab.K.acall; first | assumption | exact node15) | (apply Ab.Rg.mk; omega) | (apply Ab.Lt.mk; first | decide | (simp; done) | (simp; omega) | (rw [bsn_length]; omega)) | (apply Ab.Get.mk; first | rfl | first | exact ga | exact gb | (rw [Int.toNat_natCast]; first | exact g0 | exact g1)) | (apply Ab.Nm.mk; first | exact bsn_set (by omega) | exact nrm_) | (apply Xg.s; constructor) | (apply Ab.asm; assumption) | rfl | infer_instance | decide))
        all_goals ((first | apply RetQ.ret | apply RetQ.normal); (case he => (repeat' (first | exact bsn_length | exact EvR.nil | apply EvR.tmp | (apply EvR.cellA; (case ha => rfl)) | (apply Ab.K.ev; first | exact Ev.hit | (apply Ev.missB; case h => rfl) | exact Ev.const | apply Ev.non | assumption) | (apply Ab.K.at_; first | exact At.hit | (apply Ab.asm; assumption) | (apply At.miss; case h => omega)) | rfl))); (case hg => rfl))
        all_goals first | rfl | (apply Keeps.fr; (case h => exact fr_); (case hv => exact plR.nm bsn_plR))
  · have hr : ∀ i, reachB l a i = false := fun i => by
      cases hh : reachB l a i with
      | false => rfl
      | true => exact absurd (reachB_iff.1 hh).1 ha
    rw [bsn_congr (n := 65) (f' := fun _ => false) (fun i _ => hr i)]
    (repeat' (first | (apply Ab.K.ev; exact ev_) | (apply Ab.K.aops; first | (apply Xg.s; constructor) | (apply Ab.S.guardU; (case hd => rfl); (case hb => (exact ev_; done))) | apply Ab.S.guardG) | (apply Ab.K.aop; first | (first | (apply Ab.O.allocA (l := bsn 65 fun _ => false) (N + 0); (case hid => exact frees_); (case hp => exact bsn_pl)) | (apply Ab.O.allocA (l := bsn 65 fun _ => false) (N + 1); (case hid => exact frees_); (case hp => exact bsn_pl)) | (apply Ab.Qz.br; (case hz => exact bsn_pl)) | (apply Ab.O.storeAll; (case hz => rfl); (case hx => exact ev_); (case hy => exact ev_); (case hs => exact at_); (case hl => exact bsn_length); (case hc => exact bsn_length)) | (apply Ab.O.loadAll; (case ha => rfl); (case hx => exact ev_); (case hs => exact at_); (case hl => exact bsn_length))) | (apply Og.s; constructor)) | (apply Ab.K.gk; first | (apply Xg.s; constructor) | (apply Ab.gY; case hw => assumption) | (apply Ab.gNT; case hw => assumption) | (apply Ab.gNF; case hw => assumption) | ((first | apply Ab.gD | apply Ab.gDN); all_goals (intro _ _; (first | contradiction | (exfalso; omega) | skip)))) | (apply Ab.K.awp; first | (apply Xg.s; constructor)) | (apply Ab.K.at_; exact at_) | (apply Ab.K.acall; first | assumption | exact node15) | (apply Ab.Rg.mk; omega) | (apply Ab.Lt.mk; first | decide | (simp; done) | (simp; omega) | (rw [bsn_length]; omega)) | (apply Ab.Get.mk; first | rfl | first | exact ga | exact gb | (rw [Int.toNat_natCast]; first | exact g0 | exact g1)) | (apply Ab.Nm.mk; first | exact bsn_set (by omega) | exact nrm_) | (apply Xg.s; constructor) | (apply Ab.asm; assumption) | rfl | infer_instance | decide))
    all_goals ((first | apply RetQ.ret | apply RetQ.normal); (case he => (repeat' (first | exact bsn_length | exact EvR.nil | apply EvR.tmp | (apply EvR.cellA; (case ha => rfl)) | (apply Ab.K.ev; first | exact Ev.hit | (apply Ev.missB; case h => rfl) | exact Ev.const | apply Ev.non | assumption) | (apply Ab.K.at_; first | exact At.hit | (apply Ab.asm; assumption) | (apply At.miss; case h => omega)) | rfl))); (case hg => rfl))
    all_goals first | rfl | (apply Keeps.fr; (case h => exact fr_); (case hv => exact plR.nm bsn_plR))
end Go.Proofs.Ytdbnpghckgmaoaa

/- trees: join, has and top (written by gen_tj.py from c06). -/
namespace Go.Proofs.Ytdbnpghckgmaoaa
set_option linter.unusedVariables false
set_option linter.unusedSimpArgs false
set_option linter.unusedSectionVars false
open Go.RowKit Ab JP
attribute [local irreducible] AOps AOpsD AOp AWp put nargs AHeap.set At Free ACall thenQ blockQ roundQ RetQ Src
theorem has_spec {s : AHeap} {j : Nat} {A : Option Addr} {n c : Nat} {rest : List Value} {sz : Nat} (hj : At s j (.cells true sz (.slice A n c :: rest))) (a : Int) :
    ACall Try.prog 59 [.pointer (some ⟨j, 0, none⟩), .int .i64 a] s (.bool (decide (1 ≤ a ∧ a < n))) s := by
  refine ACall.make Try.func59 rfl (by kernel_rfl) (by decide) rfl (fun N hN => ?_)
  (repeat' (first | (apply Ab.K.ev; exact ev_) | (apply Ab.K.aops; first | (apply Xg.s; constructor) | apply Ab.S.guardG) | (apply Ab.K.aop; first | (apply Og.s; constructor)) | (apply Ab.K.gk; first | (apply Xg.s; constructor) | (apply Ab.gY; case hw => assumption) | (apply Ab.gNT; case hw => assumption) | (apply Ab.gNF; case hw => assumption) | ((first | apply Ab.gD | apply Ab.gDN); all_goals (intro _ _; (first | contradiction | (exfalso; omega) | skip)))) | (apply Ab.K.awp; first | (apply Xg.s; constructor)) | (apply Ab.K.at_; exact at_) | (apply Ab.K.acall; first | assumption | fail) | (apply Ab.Rg.mk; omega) | (apply Ab.Lt.mk; first | decide | (simp; done) | (simp; omega) | fail) | (apply Ab.Get.mk; first | rfl | fail) | (apply Ab.Nm.mk; first | exact nrm_) | (apply Xg.s; constructor) | (apply Ab.asm; assumption) | rfl | infer_instance | decide))
  all_goals ((first | apply RetQ.ret | apply RetQ.normal); (case he => exact evr_); (case hg => rfl))
  all_goals first | exact Keeps.self trivial | (simp only [resV]; congr 1; simp; omega)

theorem ints_at {l : List Int} {i : Int} (h : JP.In l i) : (ints l)[i.toNat]? = some (.int .i64 (JP.g l i)) := by
  have : i.toNat < l.length := by have := h.1; have := h.2; omega
  simp [ints, JP.g, List.getD, this]
theorem ints_set (l : List Int) (i : Nat) (v : Int) : (ints l).set i (.int .i64 v) = ints (l.set i v) := by simp [ints]
theorem set_self {s : AHeap} {i : Nat} {b : ABlk} (h : s i = some b) : s.set i b = s := by
  funext k; by_cases e : k = i
  · subst e; rw [AHeap.set_same, h]
  · rw [AHeap.set_other _ _ e]

theorem top_spec {m : Int → Nat} {s : AHeap} {j u : Nat} {c : Nat} {rest : List Value} {sz : Nat} {U : List Int} {a : Int} (hw : Wf m U) (ha : In U a) (hju : j ≠ u)
    (hj : At s j (.cells true sz (.slice (some ⟨u, 0, none⟩) U.length c :: rest))) (hu : At s u (.cells true 1 (ints U))) :
    ACall Try.prog 60 [.pointer (some ⟨j, 0, none⟩), .int .i64 a] s (.int .i64 (topS (m a) U a).2) (s.set u (.cells true 1 (ints (topS (m a) U a).1))) := by
  refine ACall.make Try.func60 rfl (by kernel_rfl) (by decide) rfl (fun N hN => ?_)
  (repeat' (first | (apply Ab.K.ev; exact ev_) | (apply Ab.K.aops; first | (apply Xg.s; constructor) | apply Ab.S.guardG) | (apply Ab.K.aop; first | (apply Og.s; constructor)) | (apply Ab.K.gk; first | (apply Xg.s; constructor) | (apply Ab.gY; case hw => assumption) | (apply Ab.gNT; case hw => assumption) | (apply Ab.gNF; case hw => assumption) | ((first | apply Ab.gD | apply Ab.gDN); all_goals (intro _ _; (first | contradiction | (exfalso; omega) | skip)))) | (apply Ab.K.awp; first | (apply Xg.s; constructor)) | (apply Ab.K.at_; exact at_) | (apply Ab.K.acall; first | assumption | fail) | (apply Ab.Rg.mk; omega) | (apply Ab.Lt.mk; first | decide | (simp; done) | (simp; omega) | fail) | (apply Ab.Get.mk; first | rfl | fail) | (apply Ab.Nm.mk; first | exact nrm_) | (apply Xg.s; constructor) | (apply Ab.asm; assumption) | rfl | infer_instance | decide))
  refine AWp.loop (fun k tm s1 => ∃ U1 a1, Ev tm (.tmp 0) (.pointer (some ⟨j, 0, none⟩)) ∧ Ev tm (.tmp 1) (.int .i64 a1) ∧ s1 = s.set u (.cells true 1 (ints U1)) ∧ Wf m U1 ∧ In U1 a1 ∧ U1.length = U.length ∧ m a1 ≤ k ∧ topS (m a1) U1 a1 = topS (m a) U a) (m a) ?_ ?_
  · refine ⟨U, a, ?_, ?_, (set_self hu.eq).symm, hw, ha, rfl, Nat.le_refl _, rfl⟩ <;> exact ev_
  · rintro k tm s1 ⟨U1, a1, h0, h1, rfl, hw1, ha1, hl1, hk, he⟩
    have hj1 : (s.set u (.cells true 1 (ints U1))) j = some (.cells true sz (.slice (some ⟨u, 0, none⟩) U1.length c :: rest)) := by rw [AHeap.set_other _ _ hju, hj.eq, hl1]
    have hu1 : (s.set u (.cells true 1 (ints U1))) u = some (.cells true 1 (ints U1)) := AHeap.set_same _ _ _
    have hb := ha1.1
    have hb2 := ha1.2
    have ha2 := (hw1 a1 ha1).1
    have hb3 := ha2.1
    have hb4 := ha2.2


    (repeat' (first | (apply Ab.K.ev; exact ev_) | (apply Ab.K.aops; first | (apply Xg.s; constructor) | apply Ab.S.guardG) | (apply Ab.K.aop; first | (apply Og.s; constructor)) | (apply Ab.K.gk; first | (apply Xg.s; constructor) | (apply Ab.gY; case hw => assumption) | (apply Ab.gNT; case hw => assumption) | (apply Ab.gNF; case hw => assumption) | ((first | apply Ab.gD | apply Ab.gDN); all_goals (intro _ _; (first | contradiction | (exfalso; omega) | skip)))) | (apply Ab.K.aopsD; first | (apply Ab.D.q0t; (case hw => rfl); (case hot => rfl)) | (apply Ab.D.w1t; (case hw => rfl); (case hot => rfl)) | (apply Ab.D.q0; (case hw => rfl); intro _ _) | (apply Ab.D.w1n; (case hw => rfl); intro _ _) | (apply Ab.D.w2n; (case hw => rfl); intro _ _) | (apply Xg.s; constructor) | fail | apply Ab.D.guardG) | exact ⟨rfl, rfl⟩ | (apply Ab.K.awp; first | (apply AWp.draw (id := 2) [[], [0], [0, 1], [0, 1, 2], [], [], [5], [5, 6], [5, 6, 7], [], [9], [9, 10], [9, 10, 11], [], [9, 10, 11, 12, 13], [9, 10, 11, 12, 13, 14], [5, 6, 7, 8, 9, 10, 11, 12, 13, 14, 15], [5, 6, 7, 8, 9, 10, 11, 12, 13, 14, 15, 16], [0, 1, 2, 3, 4, 5, 6, 7, 8, 9, 10, 11, 12, 13, 14, 15, 16, 17], [0, 1, 2, 3, 4, 5, 6, 7, 8, 9, 10, 11, 12, 13, 14, 15, 16, 17, 18]] [(19, [u])] (by kernel_rfl) (by kernel_rfl) (by simp [apartW, unordB, cC] <;> omega)) | (apply Xg.s; constructor)) | (apply Ab.K.at_; exact at_) | (apply Ab.K.acall; first | assumption | fail) | (apply Ab.Rg.mk; omega) | (apply Ab.Lt.mk; first | decide | (simp; done) | (simp; omega) | rw [ints_length]; omega) | (apply Ab.Get.mk; first | rfl | (first | exact ints_at (by assumption) | (rw [ints_set]; exact ints_at (In.set (by assumption))))) | (apply Ab.Nm.mk; first | exact nrm_) | (apply Xg.s; constructor) | (apply Ab.asm; assumption) | rfl | infer_instance | decide))
    · rename_i hne
      obtain ⟨w1, w2, w3, w4, w5⟩ := half_spec hw1 ha1 hne
      have e1 : g (half U1 a1) a1 = g U1 (g U1 a1) := g_set_same ha1
      refine X.roundN (m (g U1 (g U1 a1))) (by omega) ⟨half U1 a1, g U1 (g U1 a1), by exact ev_, ?_, by rw [AHeap.set_set, ints_set]; rfl, w1, by simpa [In, half] using w5, by rw [w2, hl1], Nat.le_refl _, ?_⟩
      · refine Eq.mp (congrArg (fun z => Ev _ (.tmp 1) (.int .i64 z)) e1) ?_; exact ev_
      · rw [← he]
        cases hm : m a1 with
        | zero => omega
        | succ q =>
          simp only [topS, if_neg hne]
          exact topS_more _ _ w1 (by simpa [In, half] using w5) (Nat.le_refl _) (by omega)
    · rename_i hne
      have hr : topS (m a1) U1 a1 = (U1, a1) := by cases m a1 <;> simp [topS, Decidable.not_not.1 hne]
      rw [hr] at he
      ((first | apply RetQ.ret | apply RetQ.normal); (case he => exact evr_); (case hg => rfl))
      · rw [← he]; rfl
      · rw [← he]
        refine Keeps.one hu.eq (AHeap.set_same _ _ _) (fun i hi c hc => by rw [AHeap.set_other _ _ hi]; exact hc) ?_ trivial
        intro x hx
        obtain ⟨y, _, rfl⟩ := List.mem_map.1 hx
        trivial

theorem has_yes {s : AHeap} {j : Nat} {A : Option Addr} {n c : Nat} {rest : List Value} {sz : Nat} (hj : At s j (.cells true sz (.slice A n c :: rest))) {a : Int} (h : 1 ≤ a ∧ a < n) :
    ACall Try.prog 59 [.pointer (some ⟨j, 0, none⟩), .int .i64 a] s (.bool true) s := by have := has_spec hj a; rwa [decide_eq_true h] at this
theorem has_no {s : AHeap} {j : Nat} {A : Option Addr} {n c : Nat} {rest : List Value} {sz : Nat} (hj : At s j (.cells true sz (.slice A n c :: rest))) {a : Int} (h : ¬ (1 ≤ a ∧ a < n)) :
    ACall Try.prog 59 [.pointer (some ⟨j, 0, none⟩), .int .i64 a] s (.bool false) s := by have := has_spec hj a; rwa [decide_eq_false h] at this
end Go.Proofs.Ytdbnpghckgmaoaa

/- trees: the document's links; edges but one. -/
namespace Go.Proofs.Ytdbnpghckgmaoaa
set_option linter.unusedVariables false
set_option linter.unusedSimpArgs false
set_option linter.unusedSectionVars false
open Go.RowKit Ab TP
attribute [local irreducible] AOps AOpsD AOp AWp put nargs AHeap.set At Free ACall thenQ blockQ roundQ RetQ Src bsn
theorem none_of {M : Nat} {s s1 : AHeap} (T : Top M s1) (F : Fr s1 s []) (i : Nat) (hi : M ≤ i) : s i = none := by
  cases h : s i with
  | none => rfl
  | some b => have := F i (by simp) b h; rw [T i hi] at this; cases this
theorem free_of {s : AHeap} {i : Nat} (h : s i = none) : Free s i := by unfold Free; exact h
theorem idx51 {f : Nat → Bool} {i : Int} (h : 0 ≤ i ∧ i < 65) : aindexV Try.prog 58 (.agg (bsn 65 f).toArray) (.int .i64 i) = some (.bool (f i.toNat)) := by
  have h4 : tdOf Try.prog 4 = some ⟨.bool, 1, 1, .bool false⟩ := by kernel_rfl
  have hg := bsn_get (n := 65) (f := f) (i := i.toNat) (by omega)
  have hi : (0 ≤ i ∧ i < ((65 : Nat) : Int)) := by omega
  simp only [aindexV, td51.is, h4, if_pos hi, apart, Nat.mul_one]
  simp [TD.agg, hg]
noncomputable def lkB (l : List E) (a b : Int) : Bool := decide (TP.Node a) && (decide (TP.Node b) && reachB l a b.toNat)
theorem lkB_iff {l : List E} {a b : Int} : lkB l a b = true ↔ TP.Node a ∧ TP.Node b ∧ Conn l a b := by
  unfold lkB
  rw [Bool.and_eq_true, Bool.and_eq_true, decide_eq_true_iff, decide_eq_true_iff, reachB_iff]
  constructor
  · rintro ⟨h1, h2, _, h3⟩
    rw [show ((b.toNat : Nat) : Int) = b from by have := h2.1; omega] at h3
    exact ⟨h1, h2, h3⟩
  · rintro ⟨h1, h2, h3⟩
    refine ⟨h1, h2, h1, ?_⟩
    rw [show ((b.toNat : Nat) : Int) = b from by have := h2.1; omega]; exact h3
theorem linked9 {s : AHeap} {A : Option Addr} {n c : Nat} {on : Option Nat} {l : List E} {a b : Int} (h : EA s (.slice A n c) on l) (hl : ∀ e ∈ l, TP.Node e.a ∧ TP.Node e.b) (hn : n < 4611686018427387904) :
    ACall Try.prog 16 [.slice A n c, .int .i64 a, .int .i64 b] s (.bool (lkB l a b)) s := by
  have c27 := reach27 (a := a) h hl hn
  have hnode : ∀ (s : AHeap) (n : Int), ACall Try.prog 22 [.int .i64 n] s (.bool (decide (TP.Node n))) s := fun s n => node15
  by_cases ha : TP.Node a
  · have na := hnode s a
    rw [decide_eq_true ha] at na
    by_cases hb : TP.Node b
    · have nb := hnode s b
      rw [decide_eq_true hb] at nb
      have hix := idx51 (f := reachB l a) (i := b) (by have := hb.1; have := hb.2; omega)


      (refine ACall.make Try.func16 rfl (by kernel_rfl) (by decide) rfl (fun N hN => ?_); have hT : Top N _ := hN; (repeat' (first | (apply Ab.K.ev; exact ev_) | (apply Ab.K.aops; first | (apply Xg.s; constructor) | (apply Ab.S.guardU; (case hd => rfl); (case hb => (exact ev_; done))) | apply Ab.S.guardG) | (apply Ab.K.aop; first | (apply Ab.O.indexV; (case hx => exact ev_); (case hy => exact ev_); (case hv => exact hix)) | (apply Og.s; constructor)) | (apply Ab.K.gk; first | (apply Xg.s; constructor) | (apply Ab.gY; case hw => assumption) | (apply Ab.gNT; case hw => assumption) | (apply Ab.gNF; case hw => assumption) | ((first | apply Ab.gD | apply Ab.gDN); all_goals (intro _ _; (first | contradiction | (exfalso; omega) | skip)))) | (apply Ab.K.awp; first | (apply Xg.s; constructor)) | (apply Ab.K.at_; exact at_) | (apply Ab.K.acall; first | assumption | first | exact na | exact nb | exact c27) | (apply Ab.Rg.mk; omega) | (apply Ab.Lt.mk; first | decide | (simp; done) | (simp; omega) | fail) | (apply Ab.Get.mk; first | rfl | fail) | (apply Ab.Nm.mk; first | exact nrm_) | (apply Xg.s; constructor) | (apply Ab.asm; assumption) | rfl | infer_instance | decide)); (all_goals ((first | apply RetQ.ret | apply RetQ.normal); (case he => exact evr_); (case hg => rfl))); (all_goals first | rfl | (apply Keeps.fr; (case h => exact fr_); (case hv => exact plR.nm rfl)) | (simp only [resV, lkB, decide_eq_true ha, decide_eq_true hb, Bool.true_and])))
    · have nb := hnode s b
      rw [decide_eq_false hb] at nb
      (refine ACall.make Try.func16 rfl (by kernel_rfl) (by decide) rfl (fun N hN => ?_); have hT : Top N _ := hN; (repeat' (first | (apply Ab.K.ev; exact ev_) | (apply Ab.K.aops; first | (apply Xg.s; constructor) | (apply Ab.S.guardU; (case hd => rfl); (case hb => (exact ev_; done))) | apply Ab.S.guardG) | (apply Ab.K.aop; first | (apply Ab.O.indexV; (case hx => exact ev_); (case hy => exact ev_); (case hv => exact hix)) | (apply Og.s; constructor)) | (apply Ab.K.gk; first | (apply Xg.s; constructor) | (apply Ab.gY; case hw => assumption) | (apply Ab.gNT; case hw => assumption) | (apply Ab.gNF; case hw => assumption) | ((first | apply Ab.gD | apply Ab.gDN); all_goals (intro _ _; (first | contradiction | (exfalso; omega) | skip)))) | (apply Ab.K.awp; first | (apply Xg.s; constructor)) | (apply Ab.K.at_; exact at_) | (apply Ab.K.acall; first | assumption | first | exact na | exact nb | exact c27) | (apply Ab.Rg.mk; omega) | (apply Ab.Lt.mk; first | decide | (simp; done) | (simp; omega) | fail) | (apply Ab.Get.mk; first | rfl | fail) | (apply Ab.Nm.mk; first | exact nrm_) | (apply Xg.s; constructor) | (apply Ab.asm; assumption) | rfl | infer_instance | decide)); (all_goals ((first | apply RetQ.ret | apply RetQ.normal); (case he => exact evr_); (case hg => rfl))); (all_goals first | rfl | (apply Keeps.fr; (case h => exact fr_); (case hv => exact plR.nm rfl)) | (simp only [resV, lkB, decide_eq_true ha, decide_eq_false hb, Bool.true_and, Bool.false_and])))
  · have na := hnode s a
    rw [decide_eq_false ha] at na
    (refine ACall.make Try.func16 rfl (by kernel_rfl) (by decide) rfl (fun N hN => ?_); have hT : Top N _ := hN; (repeat' (first | (apply Ab.K.ev; exact ev_) | (apply Ab.K.aops; first | (apply Xg.s; constructor) | (apply Ab.S.guardU; (case hd => rfl); (case hb => (exact ev_; done))) | apply Ab.S.guardG) | (apply Ab.K.aop; first | (apply Ab.O.indexV; (case hx => exact ev_); (case hy => exact ev_); (case hv => exact hix)) | (apply Og.s; constructor)) | (apply Ab.K.gk; first | (apply Xg.s; constructor) | (apply Ab.gY; case hw => assumption) | (apply Ab.gNT; case hw => assumption) | (apply Ab.gNF; case hw => assumption) | ((first | apply Ab.gD | apply Ab.gDN); all_goals (intro _ _; (first | contradiction | (exfalso; omega) | skip)))) | (apply Ab.K.awp; first | (apply Xg.s; constructor)) | (apply Ab.K.at_; exact at_) | (apply Ab.K.acall; first | assumption | first | exact na | exact nb | exact c27) | (apply Ab.Rg.mk; omega) | (apply Ab.Lt.mk; first | decide | (simp; done) | (simp; omega) | fail) | (apply Ab.Get.mk; first | rfl | fail) | (apply Ab.Nm.mk; first | exact nrm_) | (apply Xg.s; constructor) | (apply Ab.asm; assumption) | rfl | infer_instance | decide)); (all_goals ((first | apply RetQ.ret | apply RetQ.normal); (case he => exact evr_); (case hg => rfl))); (all_goals first | rfl | (apply Keeps.fr; (case h => exact fr_); (case hv => exact plR.nm rfl)) | (simp only [resV, lkB, decide_eq_false ha, Bool.false_and])))

theorem rm_snoc {l : List E} {f e : E} : rm (l ++ [f]) e = rm l e ++ if f = e then [] else [f] := by
  unfold rm
  rw [List.filter_append]
  by_cases h : f = e <;> simp [h]
theorem rm_len {l : List E} {e : E} : (rm l e).length ≤ l.length := List.length_filter_le _ _
theorem without37 {s : AHeap} {A : Option Addr} {n c : Nat} {on : Option Nat} {l : List E} {e : E} {o : Nat} (h : EA s (.slice A n c) on l) (hn : n ≤ 1000) (ho : s o = none) :
    ACall Try.prog 52 [.slice A n c, .agg (ec e).toArray] s (.slice (some ⟨o, 0, none⟩) (rm l e).length (rm l e).length) (s.set o (.cells true 3 (ecs (rm l e)))) := by
  have hnl : n = l.length := by obtain ⟨_, _, e⟩ := h.isl; injection e
  refine ACall.make Try.func52 rfl (by kernel_rfl) (by decide) rfl (fun N hN => ?_)
  have hT : Top N s := hN

  (repeat' (first | (apply Ab.K.ev; exact ev_) | (apply Ab.K.aops; first | (apply Xg.s; constructor) | (apply Ab.S.guardU; (case hd => rfl); (case hb => (exact ev_; done))) | apply Ab.S.guardG) | (apply Ab.K.aop; first | (first | (apply Ab.O.boxA (l := ec e) (N + 0); (case hx => exact ev_); (case hid => exact frees_)) | (apply Ab.O.build0 (N + 1) (te := ⟨.struct [(0, 3), (1, 3), (2, 3)], 3, 24, .agg #[.int .i64 0, .int .i64 0, .int .i64 0]⟩); (case hz => exact ⟨rfl, rfl⟩); (case hid => exact frees_))) | (apply Og.s; constructor)) | (apply Ab.K.gk; first | (apply Xg.s; constructor) | (apply Ab.gY; case hw => assumption) | (apply Ab.gNT; case hw => assumption) | (apply Ab.gNF; case hw => assumption) | ((first | apply Ab.gD | apply Ab.gDN); all_goals (intro _ _; (first | contradiction | (exfalso; omega) | skip)))) | (apply Ab.K.awp; first | (apply Xg.s; constructor)) | (apply Ab.K.at_; exact at_) | (apply Ab.K.acall; first | assumption | fail) | (apply Ab.Rg.mk; omega) | (apply Ab.Lt.mk; first | decide | (simp; done) | (simp; omega) | fail) | (apply Ab.Get.mk; first | rfl | fail) | (apply Ab.Nm.mk; first | exact nrm_) | (apply Xg.s; constructor) | (apply Ab.asm; assumption) | rfl | infer_instance | decide))
  refine AWp.loop (fun kk tm s1 => ∃ (i q M : Nat), Ev tm (.tmp 0) (.slice A n c) ∧ Ev tm (.tmp 3) (.pointer (some ⟨N + 0, 0, none⟩)) ∧ Ev tm (.tmp 5) (.slice (some ⟨q, 0, none⟩) (rm (l.take i) e).length (rm (l.take i) e).length) ∧ Ev tm (.tmp 6) (.int .i64 i) ∧ At s1 (N + 0) (.cells true 1 (ec e)) ∧ At s1 q (.cells true 3 (ecs (rm (l.take i) e))) ∧ Fr s1 s [] ∧ N + 1 ≤ q ∧ Top M s1 ∧ i ≤ n ∧ kk = n - i) n ?_ ?_
  · exact ⟨0, N + 1, N + 2, by exact ev_, by exact ev_, by exact ev_, by exact ev_, by exact at_, by exact at_, by exact fr_, Nat.le_refl _, (hT.new (M := N)).new, by omega, rfl⟩
  rintro kk tm s1 ⟨i, q, M, e0, e3, e5, e6, a3, a5, F, hq, T, hi, hkk⟩
  have hqM := T.lt a5
  by_cases hin : i < n
  · have hi' : l[i]? = some (l[i]'(by omega)) := List.getElem?_eq_getElem (by omega)
    obtain ⟨f, hff⟩ : ∃ f, f = l[i]'(by omega) := ⟨_, rfl⟩
    rw [← hff] at hi'
    have htk : l.take (i + 1) = l.take i ++ [f] := by rw [List.take_add_one, hi']; rfl
    obtain ⟨q', rw1, cs, rfl, hon, _, hq', _, hE, _⟩ := (h.fr F).elt hi'
    have hqN := h.lt hT q' hon
    have hNM : N + 0 < M := T.lt a3
    have hkl : (rm (l.take i) e).length ≤ n := Nat.le_trans rm_len (by rw [List.length_take]; omega)

    by_cases hfe : f = e
    · have q1 : ∀ x y, ABin Try.prog .neq 43 x y (.agg (ec f).toArray) (.agg (ec e).toArray) (.bool false) := fun x y => by have := ne32 (x := x) (y := y) (e := f) (f := e); rwa [decide_eq_true hfe] at this
      have hr : rm (l.take (i + 1)) e = rm (l.take i) e := by rw [htk, rm_snoc, if_pos hfe, List.append_nil]

      (repeat' (first | (apply Ab.K.ev; exact ev_) | (apply Ab.K.aops; first | (apply Xg.s; constructor) | (apply Ab.S.guardU; (case hd => rfl); (case hb => (exact ev_; done))) | apply Ab.S.guardG) | (apply Ab.K.aop; first | (apply Ab.O.bin; (case hx => exact ev_); (case hy => exact ev_); (case hv => exact q1 _ _)) | (apply Og.s; constructor)) | (apply Ab.K.gk; first | (apply Xg.s; constructor) | (apply Ab.gY; case hw => assumption) | (apply Ab.gNT; case hw => assumption) | (apply Ab.gNF; case hw => assumption) | ((first | apply Ab.gD | apply Ab.gDN); all_goals (intro _ _; (first | contradiction | (exfalso; omega) | skip)))) | (apply Ab.K.aopsD; first | (apply Ab.D.q0t; (case hw => rfl); (case hot => rfl)) | (apply Ab.D.w1t; (case hw => rfl); (case hot => rfl)) | (apply Ab.D.q0; (case hw => rfl); intro _ _) | (apply Ab.D.w1n; (case hw => rfl); intro _ _) | (apply Ab.D.w2n; (case hw => rfl); intro _ _) | (apply Xg.s; constructor) | fail | apply Ab.D.guardG) | exact ⟨rfl, rfl⟩ | (apply Ab.K.awp; first | (apply AWp.draw (id := 5) [[], [], [0, 1], [0, 1, 2], [], [0, 1, 2, 3, 4]] [] (by kernel_rfl) (by kernel_rfl) (by simp [apartW, unordB, cC] <;> omega)) | (apply Xg.s; constructor)) | (apply Ab.K.at_; exact at_) | (apply Ab.K.acall; first | assumption | fail) | (apply Ab.Rg.mk; omega) | (apply Ab.Lt.mk; first | decide | (simp; done) | (simp; omega) | first | omega | (show (0 + 3 : Nat) < 3 + 1; decide)) | (apply Ab.Get.mk; first | rfl | fail) | (apply Ab.Nm.mk; first | first | exact Eq.trans (congrArg (fun z => List.take _ (List.drop (z * 3) cs)) (Int.toNat_natCast i)) hE | exact (show ((ec e).drop 0).take 3 = ec e from rfl) | exact nrm_) | (apply Xg.s; constructor) | (apply Ab.asm; assumption) | rfl | infer_instance | decide))
      exact X.roundN (n - (i + 1)) (by omega) ⟨i + 1, q, M, by exact ev_, by exact ev_, by rw [hr]; exact ev_, by exact ev_, a3, by rw [hr]; exact a5, F, hq, T, by omega, rfl⟩
    · have q1 : ∀ x y, ABin Try.prog .neq 43 x y (.agg (ec f).toArray) (.agg (ec e).toArray) (.bool true) := fun x y => by have := ne32 (x := x) (y := y) (e := f) (f := e); rwa [decide_eq_false hfe] at this
      have hr : rm (l.take (i + 1)) e = rm (l.take i) e ++ [f] := by rw [htk, rm_snoc, if_neg hfe]
      (repeat' (first | (apply Ab.K.ev; exact ev_) | (apply Ab.K.aops; first | (apply Xg.s; constructor) | (apply Ab.S.guardU; (case hd => rfl); (case hb => (exact ev_; done))) | apply Ab.S.guardG) | (apply Ab.K.aop; first | (first | (apply Ab.O.bin; (case hx => exact ev_); (case hy => exact ev_); (case hv => exact q1 _ _)) | (apply Ab.O.build1A M; (case hx => exact ev_); (case hl => rfl); (case hz => exact ⟨rfl, rfl⟩); (case hes => decide); (case hid => exact T.free (Nat.le_refl _)))) | (apply Og.s; constructor)) | (apply Ab.K.gk; first | (apply Xg.s; constructor) | (apply Ab.gY; case hw => assumption) | (apply Ab.gNT; case hw => assumption) | (apply Ab.gNF; case hw => assumption) | ((first | apply Ab.gD | apply Ab.gDN); all_goals (intro _ _; (first | contradiction | (exfalso; omega) | skip)))) | (apply Ab.K.aopsD; first | (apply Ab.D.q0t; (case hw => rfl); (case hot => rfl)) | (apply Ab.D.w1t; (case hw => rfl); (case hot => rfl)) | (apply Ab.D.q0; (case hw => rfl); intro _ _) | (apply Ab.D.w1n; (case hw => rfl); intro _ _) | (apply Ab.D.w2n; (case hw => rfl); intro _ _) | (apply Xg.s; constructor) | fail | apply Ab.D.guardG) | exact ⟨rfl, rfl⟩ | (apply Ab.K.awp; first | (apply AWp.draw (id := 5) [[], [], [0, 1], [0, 1, 2], [], [0, 1, 2, 3, 4]] [] (by kernel_rfl) (by kernel_rfl) (by simp [apartW, unordB, cC] <;> omega)) | (apply Xg.s; constructor)) | (apply Ab.K.at_; exact at_) | (apply Ab.K.acall; first | assumption | fail) | (apply Ab.Rg.mk; omega) | (apply Ab.Lt.mk; first | decide | (simp; done) | (simp; omega) | first | omega | (show (0 + 3 : Nat) < 3 + 1; decide)) | (apply Ab.Get.mk; first | rfl | fail) | (apply Ab.Nm.mk; first | first | exact Eq.trans (congrArg (fun z => List.take _ (List.drop (z * 3) cs)) (Int.toNat_natCast i)) hE | exact (show ((ec e).drop 0).take 3 = ec e from rfl) | exact nrm_) | (apply Xg.s; constructor) | (apply Ab.asm; assumption) | rfl | infer_instance | decide))
      (apply Ab.O.appendL (M + 1); (case hx => exact ev_); (case hL => first | exact LAt.nil | exact LAt.blk (by exact at_) (by first | rfl | simp [ecs_length])); (case hy => exact ev_); (case hs => first | exact Src.sl (by exact at_) (by decide) (by decide) rfl | exact srcAll (by exact at_) (by first | rfl | simp [ecs_length])); (case hk => rfl); (case hm => decide); (case hl => first | rfl | first | rfl | simp [ecs_length]); (case hz => decide); (case hb => omega); (case hfree => exact free_))
      intro s2 g
      have out : ∀ j, j < M → q ≠ j → s2 j = s1 j := fun j hj hne => by rw [g.off _ (fun e => hne (Option.some.inj e)) (by omega), AHeap.set_other _ _ (by omega)]
      have T2 := g.topN T.new (fun q' e => by have := Option.some.inj e; omega)
      have F2 := g.fr (Fr.new (free_of (none_of T F _ (Nat.le_refl _))) F) (fun q' e => .inl (hT.none (by have := Option.some.inj e; omega)))
      have a3' : At s2 (N + 0) (.cells true 1 (ec e)) := At.var (by rw [out _ hNM (by omega)]; exact a3.eq)
      have gh := g.hit
      (repeat' (first | (apply Ab.K.ev; exact ev_) | (apply Ab.K.aops; first | (apply Xg.s; constructor) | (apply Ab.S.guardU; (case hd => rfl); (case hb => (exact ev_; done))) | apply Ab.S.guardG) | (apply Ab.K.aop; first | (apply Og.s; constructor)) | (apply Ab.K.gk; first | (apply Xg.s; constructor) | (apply Ab.gY; case hw => assumption) | (apply Ab.gNT; case hw => assumption) | (apply Ab.gNF; case hw => assumption) | ((first | apply Ab.gD | apply Ab.gDN); all_goals (intro _ _; (first | contradiction | (exfalso; omega) | skip)))) | (apply Ab.K.awp; first | (apply Xg.s; constructor)) | (apply Ab.K.at_; exact at_) | (apply Ab.K.acall; first | assumption | fail) | (apply Ab.Rg.mk; omega) | (apply Ab.Lt.mk; first | decide | (simp; done) | (simp; omega) | first | omega | (show (0 + 3 : Nat) < 3 + 1; decide)) | (apply Ab.Get.mk; first | rfl | fail) | (apply Ab.Nm.mk; first | first | exact Eq.trans (congrArg (fun z => List.take _ (List.drop (z * 3) cs)) (Int.toNat_natCast i)) hE | exact (show ((ec e).drop 0).take 3 = ec e from rfl) | exact nrm_) | (apply Xg.s; constructor) | (apply Ab.asm; assumption) | rfl | infer_instance | decide))
      refine X.roundN (n - (i + 1)) (by omega) ⟨i + 1, M + 1, M + 2, by exact ev_, by exact ev_, by rw [hr, List.length_append]; exact ev_, by exact ev_, a3', by rw [hr, ecs_append]; exact gh, F2, by omega, T2, by omega, rfl⟩
  · obtain rfl : i = n := by omega
    rw [hnl, List.take_length] at e5 a5
    (repeat' (first | (apply Ab.K.ev; exact ev_) | (apply Ab.K.aops; first | (apply Xg.s; constructor) | (apply Ab.S.guardU; (case hd => rfl); (case hb => (exact ev_; done))) | apply Ab.S.guardG) | (apply Ab.K.aop; first | (apply Og.s; constructor)) | (apply Ab.K.gk; first | (apply Xg.s; constructor) | (apply Ab.gY; case hw => assumption) | (apply Ab.gNT; case hw => assumption) | (apply Ab.gNF; case hw => assumption) | ((first | apply Ab.gD | apply Ab.gDN); all_goals (intro _ _; (first | contradiction | (exfalso; omega) | skip)))) | (apply Ab.K.awp; first | (apply Xg.s; constructor)) | (apply Ab.K.at_; exact at_) | (apply Ab.K.acall; first | assumption | fail) | (apply Ab.Rg.mk; omega) | (apply Ab.Lt.mk; first | decide | (simp; done) | (simp; omega) | first | omega | (show (0 + 3 : Nat) < 3 + 1; decide)) | (apply Ab.Get.mk; first | rfl | fail) | (apply Ab.Nm.mk; first | first | exact Eq.trans (congrArg (fun z => List.take _ (List.drop (z * 3) cs)) (Int.toNat_natCast i)) hE | exact (show ((ec e).drop 0).take 3 = ec e from rfl) | exact nrm_) | (apply Xg.s; constructor) | (apply Ab.asm; assumption) | rfl | infer_instance | decide))
    apply RetQ.retR (renL (dn [(o, q, .cells true 3 (ecs (rm l e)))]))
    (case he => exact evr_)
    (case hg => rfl)
    · simp [resV, mpR, mpB, mp1, mpA, renL_hit]
    · exact KeepsR.new1 ho (hT.none (by omega)) F a5 (ecs_pl _) rfl
    · simp
end Go.Proofs.Ytdbnpghckgmaoaa

/- trees: join, Unite (written by gen_tj.py from c06). -/
namespace Go.Proofs.Ytdbnpghckgmaoaa
set_option linter.unusedVariables false
set_option linter.unusedSimpArgs false
set_option linter.unusedSectionVars false
open Go.RowKit Ab JP
attribute [local irreducible] AOps AOpsD AOp AWp put nargs AHeap.set At Free ACall thenQ blockQ roundQ RetQ Src
def jCells (u z l n c1 c2 c3 : Nat) (k : Int) : List Value := [.slice (some ⟨u, 0, none⟩) n c1, .slice (some ⟨z, 0, none⟩) n c2, .slice (some ⟨l, 0, none⟩) n c3, .int .i64 k]
/-- A Join in memory. -/
structure JAt (s : AHeap) (j u z l c1 c2 c3 : Nat) (U S L : List Int) (k : Int) : Prop where
  hj : At s j (.cells true 1 (jCells u z l U.length c1 c2 c3 k))
  hu : At s u (.cells true 1 (ints U))
  hz : At s z (.cells true 1 (ints S))
  hl : At s l (.cells true 1 (ints L))
  ls : S.length = U.length
  ll : L.length = U.length
  ne : j ≠ u ∧ j ≠ z ∧ j ≠ l ∧ u ≠ z ∧ u ≠ l ∧ z ≠ l
def jset (s : AHeap) (j u z l c1 c2 c3 : Nat) (U S L : List Int) (k : Int) : AHeap :=
  updH s [(u, .cells true 1 (ints U)), (z, .cells true 1 (ints S)), (l, .cells true 1 (ints L)), (j, .cells true 1 (jCells u z l U.length c1 c2 c3 k))]

theorem JAt.setU {s : AHeap} {j u z l c1 c2 c3 : Nat} {U S L U' : List Int} {k : Int} (h : JAt s j u z l c1 c2 c3 U S L k) (hl : U'.length = U.length) : JAt (s.set u (.cells true 1 (ints U'))) j u z l c1 c2 c3 U' S L k := by
  obtain ⟨n1, n2, n3, n4, n5, n6⟩ := h.ne
  exact ⟨At.miss n1 (by rw [hl]; exact h.hj), At.hit, At.miss (Ne.symm n4) h.hz, At.miss (Ne.symm n5) h.hl, by rw [hl]; exact h.ls, by rw [hl]; exact h.ll, h.ne⟩

theorem jset_u {s : AHeap} {j u z l c1 c2 c3 : Nat} {U S L U' : List Int} {k : Int} (h : JAt s j u z l c1 c2 c3 U S L k) (hl : U'.length = U.length) : jset s j u z l c1 c2 c3 U' S L k = s.set u (.cells true 1 (ints U')) := by
  obtain ⟨n1, n2, n3, n4, n5, n6⟩ := h.ne
  unfold jset
  simp only [updH]
  rw [hl, set_self (i := j), set_self (i := l), set_self (i := z)]
  · exact (At.miss (Ne.symm n4) h.hz).eq
  · rw [set_self (At.miss (Ne.symm n4) h.hz).eq]; exact (At.miss (Ne.symm n5) h.hl).eq
  · rw [set_self (i := l), set_self (At.miss (Ne.symm n4) h.hz).eq]
    · exact (At.miss n1 h.hj).eq
    · rw [set_self (At.miss (Ne.symm n4) h.hz).eq]; exact (At.miss (Ne.symm n5) h.hl).eq
theorem jset_self {s : AHeap} {j u z l c1 c2 c3 : Nat} {U S L : List Int} {k : Int} (h : JAt s j u z l c1 c2 c3 U S L k) : jset s j u z l c1 c2 c3 U S L k = s := by
  rw [jset_u h rfl, set_self h.hu.eq]
theorem jset_at {s : AHeap} {j u z l c1 c2 c3 : Nat} {U S L : List Int} {k : Int} (hne : j ≠ u ∧ j ≠ z ∧ j ≠ l ∧ u ≠ z ∧ u ≠ l ∧ z ≠ l) (ls : S.length = U.length) (ll : L.length = U.length) : JAt (jset s j u z l c1 c2 c3 U S L k) j u z l c1 c2 c3 U S L k := by
  obtain ⟨n1, n2, n3, n4, n5, n6⟩ := hne
  exact ⟨At.hit, At.miss (Ne.symm n1) (At.miss n5 (At.miss n4 At.hit)), At.miss (Ne.symm n2) (At.miss n6 At.hit), At.miss (Ne.symm n3) At.hit, ls, ll, ⟨n1, n2, n3, n4, n5, n6⟩⟩
theorem jset_keeps {s s1 : AHeap} {j u z l c1 c2 c3 : Nat} {U S L : List Int} {k : Int} {v : Bool} (hf : Fr s1 s [u, z, l, j])
    (h : At s1 u (.cells true 1 (ints U)) ∧ At s1 z (.cells true 1 (ints S)) ∧ At s1 l (.cells true 1 (ints L)) ∧ At s1 j (.cells true 1 (jCells u z l U.length c1 c2 c3 k))) :
    Keeps s s1 (jset s j u z l c1 c2 c3 U S L k) (.bool v) := by
  refine Keeps.upd [(u, _), (z, _), (l, _), (j, _)] hf ⟨⟨h.1, nm_scal (ints_pl _)⟩, ⟨h.2.1, nm_scal (ints_pl _)⟩, ⟨h.2.2.1, nm_scal (ints_pl _)⟩, ⟨h.2.2.2, ?_⟩, trivial⟩ trivial
  intro x hx
  simp only [jCells, List.mem_cons, List.not_mem_nil, or_false] at hx
  rcases hx with rfl | rfl | rfl | rfl
  · exact updH_some (.inr (by simp))
  · exact updH_some (.inr (by simp))
  · exact updH_some (.inr (by simp))
  · trivial

theorem unite_no {s : AHeap} {j u z l c1 c2 c3 : Nat} {U S L : List Int} {k : Int} (h : JAt s j u z l c1 c2 c3 U S L k) {a b : Int} (ha : ¬ ((1 ≤ a ∧ a < U.length) ∧ (1 ≤ b ∧ b < U.length))) :
    ACall Try.prog 49 [.pointer (some ⟨j, 0, none⟩), .int .i64 a, .int .i64 b] s (.bool false) s := by
  have hj := h.hj
  unfold jCells at hj
  refine ACall.make Try.func49 rfl (by kernel_rfl) (by decide) rfl (fun N hN => ?_)
  by_cases h1 : 1 ≤ a ∧ a < U.length
  · have c1 := has_yes hj h1
    have c2 := has_no hj (a := b) (fun h2 => ha ⟨h1, h2⟩)
    (repeat' (first | (apply Ab.K.ev; exact ev_) | (apply Ab.K.aops; first | (apply Xg.s; constructor) | apply Ab.S.guardG) | (apply Ab.K.aop; first | (apply Og.s; constructor)) | (apply Ab.K.gk; first | (apply Xg.s; constructor) | (apply Ab.gY; case hw => assumption) | (apply Ab.gNT; case hw => assumption) | (apply Ab.gNF; case hw => assumption) | ((first | apply Ab.gD | apply Ab.gDN); all_goals (intro _ _; (first | contradiction | (exfalso; omega) | skip)))) | (apply Ab.K.awp; first | (apply Xg.s; constructor)) | (apply Ab.K.at_; exact at_) | (apply Ab.K.acall; first | assumption | fail) | (apply Ab.Rg.mk; omega) | (apply Ab.Lt.mk; first | decide | (simp; done) | (simp; omega) | fail) | (apply Ab.Get.mk; first | rfl | fail) | (apply Ab.Nm.mk; first | exact nrm_) | (apply Xg.s; constructor) | (apply Ab.asm; assumption) | rfl | infer_instance | decide))
    all_goals ((first | apply RetQ.ret | apply RetQ.normal); (case he => exact evr_); (case hg => rfl))
    · rfl
    · exact Keeps.self trivial
  · have c1 := has_no hj h1
    (repeat' (first | (apply Ab.K.ev; exact ev_) | (apply Ab.K.aops; first | (apply Xg.s; constructor) | apply Ab.S.guardG) | (apply Ab.K.aop; first | (apply Og.s; constructor)) | (apply Ab.K.gk; first | (apply Xg.s; constructor) | (apply Ab.gY; case hw => assumption) | (apply Ab.gNT; case hw => assumption) | (apply Ab.gNF; case hw => assumption) | ((first | apply Ab.gD | apply Ab.gDN); all_goals (intro _ _; (first | contradiction | (exfalso; omega) | skip)))) | (apply Ab.K.awp; first | (apply Xg.s; constructor)) | (apply Ab.K.at_; exact at_) | (apply Ab.K.acall; first | assumption | fail) | (apply Ab.Rg.mk; omega) | (apply Ab.Lt.mk; first | decide | (simp; done) | (simp; omega) | fail) | (apply Ab.Get.mk; first | rfl | fail) | (apply Ab.Nm.mk; first | exact nrm_) | (apply Xg.s; constructor) | (apply Ab.asm; assumption) | rfl | infer_instance | decide))
    all_goals ((first | apply RetQ.ret | apply RetQ.normal); (case he => exact evr_); (case hg => rfl))
    · rfl
    · exact Keeps.self trivial

theorem unite_eq {m : Int → Nat} {w : List Int} {s : AHeap} {j u z l c1 c2 c3 : Nat} {U S L : List Int} {k : Int} (h : JAt s j u z l c1 c2 c3 U S L k) (hi : JInv m U S L k w) {a b : Int} (ha : 1 ≤ a ∧ a < U.length) (hb : 1 ≤ b ∧ b < U.length)
    (he : (topS (m a) U a).2 = (topS (m b) (topS (m a) U a).1 b).2) :
    ACall Try.prog 49 [.pointer (some ⟨j, 0, none⟩), .int .i64 a, .int .i64 b] s (.bool false) (s.set u (.cells true 1 (ints (topS (m b) (topS (m a) U a).1 b).1))) := by
  have hj := h.hj
  have hu := h.hu
  obtain ⟨n1, n2, n3, n4, n5, n6⟩ := h.ne
  unfold jCells at hj
  have haU : In U a := ⟨by omega, ha.2⟩
  have haw : In w a := by simpa [In, hi.lu] using haU
  have hbU : In U b := ⟨by omega, hb.2⟩
  have hbw : In w b := by simpa [In, hi.lu] using hbU
  have c1 := has_yes hj ha
  have c2 := has_yes hj hb
  have c3 := top_spec (a := a) hi.wf haU n1 hj hu
  obtain ⟨j1, r1, r2, r3⟩ := hi.top haw
  have hU1 : In (topS (m a) U a).1 b := by simpa [In, j1.lu] using hbw
  have hl1 : (topS (m a) U a).1.length = U.length := by rw [j1.lu, hi.lu]
  have c4 := top_spec (s := s.set u (.cells true 1 (ints (topS (m a) U a).1))) (a := b) (c := _) (rest := _) (sz := _) j1.wf hU1 n1 (by rw [hl1]; exact At.miss n1 hj) At.hit
  refine ACall.make Try.func49 rfl (by kernel_rfl) (by decide) rfl (fun N hN => ?_)
  (repeat' (first | (apply Ab.K.ev; exact ev_) | (apply Ab.K.aops; first | (apply Xg.s; constructor) | apply Ab.S.guardG) | (apply Ab.K.aop; first | (apply Og.s; constructor)) | (apply Ab.K.gk; first | (apply Xg.s; constructor) | (apply Ab.gY; case hw => assumption) | (apply Ab.gNT; case hw => assumption) | (apply Ab.gNF; case hw => assumption) | ((first | apply Ab.gD | apply Ab.gDN); all_goals (intro _ _; (first | contradiction | (exfalso; omega) | skip)))) | (apply Ab.K.awp; first | (apply Xg.s; constructor)) | (apply Ab.K.at_; exact at_) | (apply Ab.K.acall; first | assumption | fail) | (apply Ab.Rg.mk; omega) | (apply Ab.Lt.mk; first | decide | (simp; done) | (simp; omega) | fail) | (apply Ab.Get.mk; first | rfl | fail) | (apply Ab.Nm.mk; first | exact nrm_) | (apply Xg.s; constructor) | (apply Ab.asm; assumption) | rfl | infer_instance | decide))
  all_goals ((first | apply RetQ.ret | apply RetQ.normal); (case he => exact evr_); (case hg => rfl))
  · rfl
  · exact Keeps.upd [(u, _)] (by exact fr_) ⟨⟨by exact at_, nm_scal (ints_pl _)⟩, trivial⟩ trivial

set_option maxHeartbeats 4000000 in
theorem unite_ne {m : Int → Nat} {w : List Int} {s : AHeap} {j u z l c1 c2 c3 : Nat} {U S L : List Int} {k : Int} (h : JAt s j u z l c1 c2 c3 U S L k) (hi : JInv m U S L k w) (hsz : w.length ≤ 5000) {a b : Int} (ha : 1 ≤ a ∧ a < U.length) (hb : 1 ≤ b ∧ b < U.length)
    (he : (topS (m a) U a).2 ≠ (topS (m b) (topS (m a) U a).1 b).2) {ra rb : Int} {U2 : List Int} (era : (topS (m a) U a).2 = ra) (erb : (topS (m b) (topS (m a) U a).1 b).2 = rb) (eU : (topS (m b) (topS (m a) U a).1 b).1 = U2)
    {p q : Int} (hpq : (g S rb ≤ g S ra ∧ p = ra ∧ q = rb) ∨ (g S ra < g S rb ∧ p = rb ∧ q = ra)) (hip : In U p) (hiq : In U q) (hp0 : 0 ≤ g S p) (hq0 : 0 ≤ g S q) (hs : g S p + g S q ≤ 5000) (hk : 1 ≤ k ∧ k ≤ 5000) :
    ACall Try.prog 49 [.pointer (some ⟨j, 0, none⟩), .int .i64 a, .int .i64 b] s (.bool true)
      (jset s j u z l c1 c2 c3 (U2.set q.toNat p) (S.set p.toNat (g S p + g S q)) (L.set p.toNat (if g L q < g L p then g L q else g L p)) (k - 1)) := by
  have hj := h.hj
  have hu := h.hu
  have hz := h.hz
  have hl := h.hl
  have lS := h.ls
  have lL := h.ll
  obtain ⟨n1, n2, n3, n4, n5, n6⟩ := h.ne
  unfold jCells at hj
  have haU : In U a := ⟨by omega, ha.2⟩
  have haw : In w a := by simpa [In, hi.lu] using haU
  have hbU : In U b := ⟨by omega, hb.2⟩
  have hbw : In w b := by simpa [In, hi.lu] using hbU
  have c1 := has_yes hj ha
  have c2 := has_yes hj hb
  have c3 := top_spec (a := a) hi.wf haU n1 hj hu
  obtain ⟨j1, r1, r2, r3⟩ := hi.top haw
  have hU1 : In (topS (m a) U a).1 b := by simpa [In, j1.lu] using hbw
  have hl1 : (topS (m a) U a).1.length = U.length := by rw [j1.lu, hi.lu]
  have c4 := top_spec (s := s.set u (.cells true 1 (ints (topS (m a) U a).1))) (a := b) (c := _) (rest := _) (sz := _) j1.wf hU1 n1 (by rw [hl1]; exact At.miss n1 hj) At.hit
  obtain ⟨j2, q1, q2, q3⟩ := j1.top hbw
  have hl2 : U2.length = U.length := by rw [← eU, j2.lu, hi.lu]
  rw [eU] at c4
  rw [erb] at c4 he
  rw [era] at c3 he
  clear j1 j2 r1 r2 r3 q1 q2 q3 hU1 hl1 eU era erb
  have pS : In S p := by simpa [In, lS] using hip
  have qS : In S q := by simpa [In, lS] using hiq
  have pL : In L p := by simpa [In, lL] using hip
  have qL : In L q := by simpa [In, lL] using hiq
  have qU2 : In U2 q := by simpa [In, hl2] using hiq
  have b1 := hip.1
  have b2 := hip.2
  have b3 := hiq.1
  have b4 := hiq.2
  refine ACall.make Try.func49 rfl (by kernel_rfl) (by decide) rfl (fun N hN => ?_)




  rcases hpq with ⟨hg, rfl, rfl⟩ | ⟨hg, rfl, rfl⟩
  · (repeat' (first | (apply Ab.K.ev; exact ev_) | (apply Ab.K.aops; first | (apply Xg.s; constructor) | apply Ab.S.guardG) | (apply Ab.K.aop; first | (apply Ab.O.min2) | (apply Og.s; constructor)) | (apply Ab.K.gk; first | (apply Xg.s; constructor) | (apply Ab.gY; case hw => assumption) | (apply Ab.gNT; case hw => assumption) | (apply Ab.gNF; case hw => assumption) | ((first | apply Ab.gD | apply Ab.gDN); all_goals (intro _ _; (first | contradiction | (exfalso; omega) | skip)))) | (apply Ab.K.aopsD; first | (apply Ab.D.q0t; (case hw => rfl); (case hot => rfl)) | (apply Ab.D.w1t; (case hw => rfl); (case hot => rfl)) | (apply Ab.D.q0; (case hw => rfl); intro _ _) | (apply Ab.D.w1n; (case hw => rfl); intro _ _) | (apply Ab.D.w2n; (case hw => rfl); intro _ _) | (apply Xg.s; constructor) | fail | apply Ab.D.guardG) | exact ⟨rfl, rfl⟩ | (apply Ab.K.awp; first | (apply AWp.draw (id := 6) [[], [0], [0, 1], [0, 1, 2], [], [0, 1, 2, 3, 4], [0, 1, 2, 3, 4, 5], [], [7], [7, 8], [7, 8, 9], [], [7, 8, 9, 10, 11], [7, 8, 9, 10, 11, 12], [0, 1, 2, 3, 4, 5, 6, 7, 8, 9, 10, 11, 12, 13]] [] (by kernel_rfl) (by kernel_rfl) (by simp [apartW, unordB, cC] <;> omega)) | (apply AWp.draw (id := 8) [[], [0], [0, 1], [0, 1, 2], [], [], [5], [5, 6], [5, 6, 7], [], [], [10], [10, 11], [10, 11, 12], [], [], [], [16], [16, 17], [16, 17, 18], [], [16, 17, 18, 19, 20], [16, 17, 18, 19, 20, 21], [], [23], [23, 24], [23, 24, 25], [], [23, 24, 25, 26, 27], [23, 24, 25, 26, 27, 28], [16, 17, 18, 19, 20, 21, 22, 23, 24, 25, 26, 27, 28, 29], [], [31], [31, 32], [31, 32, 33], [], [31, 32, 33, 34, 35], [31, 32, 33, 34, 35, 36], [], [38], [38, 39], [38, 39, 40], [], [38, 39, 40, 41, 42], [38, 39, 40, 41, 42, 43], [31, 32, 33, 34, 35, 36, 37, 38, 39, 40, 41, 42, 43, 44], [0, 1, 2, 3, 4, 5, 6, 7, 8, 10, 11, 12, 13, 15, 16, 17, 18, 19, 20, 21, 22, 23, 24, 25, 26, 27, 28, 29, 31, 32, 33, 34, 35, 36, 37, 38, 39, 40, 41, 42, 43, 44], [0, 1, 2, 3, 4, 5, 6, 7, 8, 10, 11, 12, 13, 15, 16, 17, 18, 19, 20, 21, 22, 23, 24, 25, 26, 27, 28, 29, 31, 32, 33, 34, 35, 36, 37, 38, 39, 40, 41, 42, 43, 44, 46], [0, 1, 2, 3, 4, 5, 6, 7, 8, 9, 10, 11, 12, 13, 15, 16, 17, 18, 19, 20, 21, 22, 23, 24, 25, 26, 27, 28, 29, 30, 31, 32, 33, 34, 35, 36, 37, 38, 39, 40, 41, 42, 43, 44, 46, 47], [0, 1, 2, 3, 4, 5, 6, 7, 8, 9, 10, 11, 12, 13, 15, 16, 17, 18, 19, 20, 21, 22, 23, 24, 25, 26, 27, 28, 29, 30, 31, 32, 33, 34, 35, 36, 37, 38, 39, 40, 41, 42, 43, 44, 46, 47, 48], [0, 1, 2, 3, 4, 5, 6, 7, 8, 9, 10, 11, 12, 13, 14, 15, 16, 17, 18, 19, 20, 21, 22, 23, 24, 25, 26, 27, 28, 29, 30, 31, 32, 33, 34, 35, 36, 37, 38, 39, 40, 41, 42, 43, 44, 45, 46, 47, 48, 49], [0, 1, 2, 3, 4, 5, 6, 7, 8, 9, 10, 11, 12, 13, 14, 15, 16, 17, 18, 19, 20, 21, 22, 23, 24, 25, 26, 27, 28, 29, 30, 31, 32, 33, 34, 35, 36, 37, 38, 39, 40, 41, 42, 43, 44, 45, 46, 47, 48, 49, 50]] [(47, [u]), (49, [z]), (51, [l])] (by kernel_rfl) (by kernel_rfl) (by simp [apartW, unordB, cC] <;> omega)) | (apply Xg.s; constructor)) | (apply Ab.K.at_; exact at_) | (apply Ab.K.acall; first | assumption | fail) | (apply Ab.Rg.mk; omega) | (apply Ab.Lt.mk; first | decide | (simp; done) | (simp; omega) | (first | (rw [ints_length]; omega) | (simp; done))) | (apply Ab.Get.mk; first | rfl | exact ints_at (by assumption)) | (apply Ab.Nm.mk; first | exact nrm_) | (apply Xg.s; constructor) | (apply Ab.asm; assumption) | rfl | infer_instance | decide))
    all_goals ((first | apply RetQ.ret | apply RetQ.normal); (case he => exact evr_); (case hg => rfl))
    · rfl
    · simp only [ints_set]
      exact jset_keeps (by exact fr_) ⟨by exact at_, by exact at_, by exact at_, by rw [List.length_set, hl2]; exact at_⟩
  · (repeat' (first | (apply Ab.K.ev; exact ev_) | (apply Ab.K.aops; first | (apply Xg.s; constructor) | apply Ab.S.guardG) | (apply Ab.K.aop; first | (apply Ab.O.min2) | (apply Og.s; constructor)) | (apply Ab.K.gk; first | (apply Xg.s; constructor) | (apply Ab.gY; case hw => assumption) | (apply Ab.gNT; case hw => assumption) | (apply Ab.gNF; case hw => assumption) | ((first | apply Ab.gD | apply Ab.gDN); all_goals (intro _ _; (first | contradiction | (exfalso; omega) | skip)))) | (apply Ab.K.aopsD; first | (apply Ab.D.q0t; (case hw => rfl); (case hot => rfl)) | (apply Ab.D.w1t; (case hw => rfl); (case hot => rfl)) | (apply Ab.D.q0; (case hw => rfl); intro _ _) | (apply Ab.D.w1n; (case hw => rfl); intro _ _) | (apply Ab.D.w2n; (case hw => rfl); intro _ _) | (apply Xg.s; constructor) | fail | apply Ab.D.guardG) | exact ⟨rfl, rfl⟩ | (apply Ab.K.awp; first | (apply AWp.draw (id := 6) [[], [0], [0, 1], [0, 1, 2], [], [0, 1, 2, 3, 4], [0, 1, 2, 3, 4, 5], [], [7], [7, 8], [7, 8, 9], [], [7, 8, 9, 10, 11], [7, 8, 9, 10, 11, 12], [0, 1, 2, 3, 4, 5, 6, 7, 8, 9, 10, 11, 12, 13]] [] (by kernel_rfl) (by kernel_rfl) (by simp [apartW, unordB, cC] <;> omega)) | (apply AWp.draw (id := 8) [[], [0], [0, 1], [0, 1, 2], [], [], [5], [5, 6], [5, 6, 7], [], [], [10], [10, 11], [10, 11, 12], [], [], [], [16], [16, 17], [16, 17, 18], [], [16, 17, 18, 19, 20], [16, 17, 18, 19, 20, 21], [], [23], [23, 24], [23, 24, 25], [], [23, 24, 25, 26, 27], [23, 24, 25, 26, 27, 28], [16, 17, 18, 19, 20, 21, 22, 23, 24, 25, 26, 27, 28, 29], [], [31], [31, 32], [31, 32, 33], [], [31, 32, 33, 34, 35], [31, 32, 33, 34, 35, 36], [], [38], [38, 39], [38, 39, 40], [], [38, 39, 40, 41, 42], [38, 39, 40, 41, 42, 43], [31, 32, 33, 34, 35, 36, 37, 38, 39, 40, 41, 42, 43, 44], [0, 1, 2, 3, 4, 5, 6, 7, 8, 10, 11, 12, 13, 15, 16, 17, 18, 19, 20, 21, 22, 23, 24, 25, 26, 27, 28, 29, 31, 32, 33, 34, 35, 36, 37, 38, 39, 40, 41, 42, 43, 44], [0, 1, 2, 3, 4, 5, 6, 7, 8, 10, 11, 12, 13, 15, 16, 17, 18, 19, 20, 21, 22, 23, 24, 25, 26, 27, 28, 29, 31, 32, 33, 34, 35, 36, 37, 38, 39, 40, 41, 42, 43, 44, 46], [0, 1, 2, 3, 4, 5, 6, 7, 8, 9, 10, 11, 12, 13, 15, 16, 17, 18, 19, 20, 21, 22, 23, 24, 25, 26, 27, 28, 29, 30, 31, 32, 33, 34, 35, 36, 37, 38, 39, 40, 41, 42, 43, 44, 46, 47], [0, 1, 2, 3, 4, 5, 6, 7, 8, 9, 10, 11, 12, 13, 15, 16, 17, 18, 19, 20, 21, 22, 23, 24, 25, 26, 27, 28, 29, 30, 31, 32, 33, 34, 35, 36, 37, 38, 39, 40, 41, 42, 43, 44, 46, 47, 48], [0, 1, 2, 3, 4, 5, 6, 7, 8, 9, 10, 11, 12, 13, 14, 15, 16, 17, 18, 19, 20, 21, 22, 23, 24, 25, 26, 27, 28, 29, 30, 31, 32, 33, 34, 35, 36, 37, 38, 39, 40, 41, 42, 43, 44, 45, 46, 47, 48, 49], [0, 1, 2, 3, 4, 5, 6, 7, 8, 9, 10, 11, 12, 13, 14, 15, 16, 17, 18, 19, 20, 21, 22, 23, 24, 25, 26, 27, 28, 29, 30, 31, 32, 33, 34, 35, 36, 37, 38, 39, 40, 41, 42, 43, 44, 45, 46, 47, 48, 49, 50]] [(47, [u]), (49, [z]), (51, [l])] (by kernel_rfl) (by kernel_rfl) (by simp [apartW, unordB, cC] <;> omega)) | (apply Xg.s; constructor)) | (apply Ab.K.at_; exact at_) | (apply Ab.K.acall; first | assumption | fail) | (apply Ab.Rg.mk; omega) | (apply Ab.Lt.mk; first | decide | (simp; done) | (simp; omega) | (first | (rw [ints_length]; omega) | (simp; done))) | (apply Ab.Get.mk; first | rfl | exact ints_at (by assumption)) | (apply Ab.Nm.mk; first | exact nrm_) | (apply Xg.s; constructor) | (apply Ab.asm; assumption) | rfl | infer_instance | decide))
    all_goals ((first | apply RetQ.ret | apply RetQ.normal); (case he => exact evr_); (case hg => rfl))
    · rfl
    · simp only [ints_set]
      exact jset_keeps (by exact fr_) ⟨by exact at_, by exact at_, by exact at_, by rw [List.length_set, hl2]; exact at_⟩

theorem unite_spec {m : Int → Nat} {w : List Int} {s : AHeap} {j u z l c1 c2 c3 : Nat} {U S L : List Int} {k : Int} (h : JAt s j u z l c1 c2 c3 U S L k) (hi : JInv m U S L k w) (hsz : w.length ≤ 5000) (a b : Int) :
    ∃ m' U' S' L' k', ACall Try.prog 49 [.pointer (some ⟨j, 0, none⟩), .int .i64 a, .int .i64 b] s (.bool (runite w a b).2) (jset s j u z l c1 c2 c3 U' S' L' k') ∧ JInv m' U' S' L' k' (runite w a b).1 ∧ U'.length = U.length := by
  by_cases hab : (1 ≤ a ∧ a < U.length) ∧ (1 ≤ b ∧ b < U.length)
  · obtain ⟨ha, hb⟩ := hab
    have haU : In U a := ⟨by omega, ha.2⟩
    have haw : In w a := by simpa [In, hi.lu] using haU
    have hbU : In U b := ⟨by omega, hb.2⟩
    have hbw : In w b := by simpa [In, hi.lu] using hbU
    obtain ⟨j1, r1, r2, r3⟩ := hi.top haw
    obtain ⟨j2, q1, q2, q3⟩ := j1.top hbw
    have hsm := j1.same a b _ _ haw hbw r1 q2
    have hl2 : (topS (m b) (topS (m a) U a).1 b).1.length = U.length := by rw [j2.lu, hi.lu]
    have hra : rhas w a := ⟨ha.1, by rw [← hi.lu]; exact ha.2⟩
    have hrb : rhas w b := ⟨hb.1, by rw [← hi.lu]; exact hb.2⟩
    by_cases he : (topS (m a) U a).2 = (topS (m b) (topS (m a) U a).1 b).2
    · have hr : runite w a b = (w, false) := by
        have := hsm.1 he
        simp [runite, this]
      rw [hr]
      refine ⟨_, _, S, L, k, ?_, j2, hl2⟩
      rw [jset_u h hl2]
      exact unite_eq h hi ha hb he
    · have hne := he
      obtain ⟨p, q, hpq⟩ : ∃ p q, (g S (topS (m b) (topS (m a) U a).1 b).2 ≤ g S (topS (m a) U a).2 ∧ p = (topS (m a) U a).2 ∧ q = (topS (m b) (topS (m a) U a).1 b).2) ∨ (g S (topS (m a) U a).2 < g S (topS (m b) (topS (m a) U a).1 b).2 ∧ p = (topS (m b) (topS (m a) U a).1 b).2 ∧ q = (topS (m a) U a).2) := by
        rcases Int.lt_or_le (g S (topS (m a) U a).2) (g S (topS (m b) (topS (m a) U a).1 b).2) with hlt | hle
        · exact ⟨_, _, .inr ⟨hlt, rfl, rfl⟩⟩
        · exact ⟨_, _, .inl ⟨hle, rfl, rfl⟩⟩
      obtain ⟨m', jj, e2, i1, i2, i3, i4, i5, i6, i7⟩ := j2.join hra hrb (q3 a _ haw r1) q1 he (p := p) (q := q) (by rcases hpq with ⟨_, h1, h2⟩ | ⟨_, h1, h2⟩; exact .inl ⟨h1, h2⟩; exact .inr ⟨h1, h2⟩)
      refine ⟨m', _, _, _, _, ?_, jj, by rw [List.length_set, hl2]⟩
      rw [e2]
      exact unite_ne h hi hsz ha hb he rfl rfl rfl hpq (by simpa [In, hi.lu] using i1) (by simpa [In, hi.lu] using i2) i3 i4 (by omega) (by omega)
  · have hr : runite w a b = (w, false) := by
      unfold runite; rw [if_neg]; rintro ⟨x, y, _⟩
      exact hab ⟨⟨x.1, by rw [hi.lu]; exact x.2⟩, ⟨y.1, by rw [hi.lu]; exact y.2⟩⟩
    rw [hr]
    refine ⟨m, U, S, L, k, ?_, hi, rfl⟩
    rw [jset_self h]
    exact unite_no h hab
end Go.Proofs.Ytdbnpghckgmaoaa

/- views: links in memory, their order, small functions. -/
namespace Go.Proofs.Ytdbnpghckgmaoaa
set_option linter.unusedVariables false
set_option linter.unusedSimpArgs false
set_option linter.unusedSectionVars false
open Go.RowKit Ab TP VP
instance : HasPl Try.prog 25 [(0, 1), (1, 1)] := ⟨by kernel_rfl⟩
instance : HasTD Try.prog 25 ⟨.struct [(0, 22), (1, 23)], 2, 48, .agg #[.slice none 0 0, .slice none 0 0]⟩ := ⟨by kernel_rfl⟩
instance : HasPl Try.prog 56 [(0, 1), (1, 1), (2, 1), (3, 1), (4, 1)] := ⟨by kernel_rfl⟩
instance : HasTD Try.prog 56 ⟨.struct [(0, 3), (1, 3), (2, 3), (3, 3), (4, 4)], 5, 40, .agg #[.int .i64 0, .int .i64 0, .int .i64 0, .int .i64 0, .bool false]⟩ := ⟨by kernel_rfl⟩
instance : HasTD Try.prog 23 ⟨.slice 56, 1, 24, .slice none 0 0⟩ := ⟨by kernel_rfl⟩
instance : HasTD Try.prog 34 ⟨.slice 43, 1, 24, .slice none 0 0⟩ := ⟨by kernel_rfl⟩

/-- A link's cells. -/
def kc (k : Kn) : List Value := [.int .i64 k.node, .int .i64 k.peer, .int .i64 k.w, .int .i64 k.ss, .bool k.md]
def kcs (l : List Kn) : List Value := l.flatMap kc
theorem kcs_length (l : List Kn) : (kcs l).length = l.length * 5 := by
  unfold kcs
  induction l with
  | nil => rfl
  | cons e l ih => rw [List.flatMap_cons, List.length_append, ih, List.length_cons]; show 5 + _ = _; omega
theorem kcs_append (a b : List Kn) : kcs (a ++ b) = kcs a ++ kcs b := by simp [kcs]
theorem kcs_pl (l : List Kn) : (kcs l).all pl1 = true := by simp [kcs, kc, pl1, plA]
theorem kcs_get {l : List Kn} {i : Nat} {e : Kn} (h : l[i]? = some e) : ((kcs l).drop (i * 5)).take 5 = kc e := by
  induction l generalizing i with
  | nil => simp at h
  | cons f l ih =>
    cases i with
    | zero => simp at h; subst h; simp [kcs, kc]
    | succ i =>
      rw [List.getElem?_cons_succ] at h
      have e1 : (i + 1) * 5 = 5 + i * 5 := by omega
      have e2 : kcs (f :: l) = kc f ++ kcs l := by simp [kcs]
      rw [e1, e2, ← List.drop_drop, show (kc f ++ kcs l).drop 5 = kcs l from rfl]
      exact ih h
theorem kcs_cell {l : List Kn} {i : Nat} {e : Kn} (h : l[i]? = some e) (j : Nat) (hj : j < 5) : (kcs l)[i * 5 + j]? = (kc e)[j]? := by
  rw [← kcs_get h, List.getElem?_take, if_pos hj, List.getElem?_drop]
/-! ### links in memory -/
inductive KA (s : AHeap) : Value → Option Nat → List Kn → Prop
  | nil : KA s (.slice none 0 0) none []
  | blk {q c : Nat} {rw : Bool} {cs : List Value} {l : List Kn} (h : At s q (.cells rw 5 cs)) (hn : l.length ≤ c) (hx : cs.take (l.length * 5) = kcs l) : KA s (.slice (some ⟨q, 0, none⟩) l.length c) (some q) l
namespace KA
variable {s s' : AHeap} {v : Value} {on : Option Nat} {l : List Kn}
theorem isl (h : KA s v on l) : ∃ A c, v = .slice A l.length c := by
  cases h with
  | nil => exact ⟨_, _, rfl⟩
  | blk => exact ⟨_, _, rfl⟩
theorem of_at (h : KA s v on l) (hs : ∀ o, on = some o → s' o = s o) : KA s' v on l := by
  cases h with
  | nil => exact .nil
  | blk h a b => exact .blk (by unfold At; rw [hs _ rfl]; exact h.eq) a b
theorem lt {M : Nat} (h : KA s v on l) (hT : Top M s) : ∀ o, on = some o → o < M := by
  cases h with
  | nil => intro o e; cases e
  | blk h a b => intro o e; obtain rfl := Option.some.inj e; exact hT.lt h
theorem fr {s1 : AHeap} (h : KA s v on l) (F : Fr s1 s []) : KA s1 v on l := by
  cases h with
  | nil => exact .nil
  | blk h a b => exact .blk (At.var (F _ (by simp) _ h.eq)) a b
theorem own {q : Nat} (h : At s q (.cells true 5 (kcs l))) : KA s (.slice (some ⟨q, 0, none⟩) l.length l.length) (some q) l :=
  .blk h (Nat.le_refl _) (by rw [← kcs_length, List.take_length])
theorem addr {A : Option Addr} {n c : Nat} (h : KA s (.slice A n c) on l) : A = none ∨ ∃ q, A = some ⟨q, 0, none⟩ := by
  cases h with
  | nil => exact .inl rfl
  | blk => exact .inr ⟨_, rfl⟩
theorem elt {A : Option Addr} {c n : Nat} (h : KA s (.slice A n c) on l) {i : Nat} {e : Kn} (hi : l[i]? = some e) : ∃ q rw cs, A = some ⟨q, 0, none⟩ ∧ on = some q ∧ n = l.length ∧ At s q (.cells rw 5 cs) ∧ i * 5 + 5 ≤ cs.length ∧ (cs.drop (i * 5)).take 5 = kc e ∧
    ∀ j, j < 5 → cs[i * 5 + j]? = (kc e)[j]? := by
  cases h with
  | nil => simp at hi
  | @blk q _ rw cs _ h a b =>
    have hlt := (List.getElem?_eq_some_iff.1 hi).1
    have hlen : l.length * 5 ≤ cs.length := by
      have := congrArg List.length b
      rw [List.length_take, kcs_length] at this
      omega
    refine ⟨q, rw, cs, rfl, rfl, rfl, h, by omega, ?_, fun j hj => by rw [← kcs_cell hi j hj, ← b, List.getElem?_take, if_pos (by omega)]⟩
    rw [← kcs_get hi, ← b]
    apply List.ext_getElem?
    intro j
    rw [List.getElem?_take, List.getElem?_take, List.getElem?_drop, List.getElem?_drop, List.getElem?_take]
    split
    · rw [if_pos (by omega)]
    · rfl
end KA
attribute [local irreducible] AOps AOpsD AOp AWp put nargs AHeap.set At Free ACall ACallE thenQ blockQ roundQ RetQ RetE Src

/-! ### small functions -/

theorem ahead09 {s : AHeap} {a b : Kn} : ACall Try.prog 42 [.agg (kc a).toArray, .agg (kc b).toArray] s (.bool (decide (VP.ahead a b))) s := by
  obtain ⟨a0, a1, a2, a3, a4⟩ := a
  obtain ⟨b0, b1, b2, b3, b4⟩ := b
  unfold VP.ahead
  simp only
  (refine ACall.make Try.func42 rfl (by kernel_rfl) (by decide) rfl (fun N hN => ?_); have hT : Top N _ := hN; (repeat' (first | (apply Ab.K.ev; exact ev_) | (apply Ab.K.aops; first | (apply Xg.s; constructor) | (apply Ab.S.guardU; (case hd => rfl); (case hb => (exact ev_; done))) | apply Ab.S.guardG) | (apply Ab.K.aop; first | (apply Ab.O.boxA (N + 0); (case hx => exact ev_); (case hid => exact frees_)) | (apply Ab.O.boxA (N + 1); (case hx => exact ev_); (case hid => exact frees_)) | (apply Og.s; constructor)) | (apply Ab.K.gk; first | (apply Xg.s; constructor) | (apply Ab.gY; case hw => assumption) | (apply Ab.gNT; case hw => assumption) | (apply Ab.gNF; case hw => assumption) | ((first | apply Ab.gD | apply Ab.gDN); all_goals (intro _ _; (first | contradiction | (exfalso; omega) | skip)))) | (apply Ab.K.awp; first | (apply Xg.s; constructor)) | (apply Ab.K.at_; exact at_) | (apply Ab.K.acall; first | assumption | fail) | (apply Ab.Rg.mk; omega) | (apply Ab.Lt.mk; first | decide | (simp; done) | (simp; omega) | fail) | (apply Ab.Get.mk; first | rfl | fail) | (apply Ab.Nm.mk; first | exact nrm_) | (apply Xg.s; constructor) | (apply Ab.asm; assumption) | rfl | infer_instance | decide)); (all_goals ((first | apply RetQ.ret | apply RetQ.normal); (case he => exact evr_); (case hg => rfl))); (all_goals first | rfl | (apply Keeps.fr; (case h => exact fr_); (case hv => exact plR.nm rfl)) | (exact bdec (by grind))))
theorem edge09 {s : AHeap} {k : Kn} : ACall Try.prog 29 [.agg (kc k).toArray] s (.agg (ec (edg k)).toArray) s := by
  obtain ⟨a0, a1, a2, a3, a4⟩ := k
  unfold edg
  simp only
  by_cases h : a1 < a0
  · rw [if_pos h]
    (refine ACall.make Try.func29 rfl (by kernel_rfl) (by decide) rfl (fun N hN => ?_); have hT : Top N _ := hN; (repeat' (first | (apply Ab.K.ev; exact ev_) | (apply Ab.K.aops; first | (apply Xg.s; constructor) | (apply Ab.S.guardU; (case hd => rfl); (case hb => (exact ev_; done))) | apply Ab.S.guardG) | (apply Ab.K.aop; first | (first | (apply Ab.O.boxA (N + 0); (case hx => exact ev_); (case hid => exact frees_)) | (apply Ab.O.allocA (l := ec ⟨0, 0, 0⟩) (N + 1); (case hid => exact frees_); (case hp => rfl)) | (apply Ab.O.storeAll; (case hz => rfl); (case hx => exact ev_); (case hy => exact ev_); (case hs => exact at_); (case hl => rfl); (case hc => rfl))) | (apply Og.s; constructor)) | (apply Ab.K.gk; first | (apply Xg.s; constructor) | (apply Ab.gY; case hw => assumption) | (apply Ab.gNT; case hw => assumption) | (apply Ab.gNF; case hw => assumption) | ((first | apply Ab.gD | apply Ab.gDN); all_goals (intro _ _; (first | contradiction | (exfalso; omega) | skip)))) | (apply Ab.K.awp; first | (apply Xg.s; constructor)) | (apply Ab.K.at_; exact at_) | (apply Ab.K.acall; first | assumption | fail) | (apply Ab.Rg.mk; omega) | (apply Ab.Lt.mk; first | decide | (simp; done) | (simp; omega) | fail) | (apply Ab.Get.mk; first | rfl | fail) | (apply Ab.Nm.mk; first | exact nrm_) | (apply Xg.s; constructor) | (apply Ab.asm; assumption) | rfl | infer_instance | decide)); (all_goals ((first | apply RetQ.ret | apply RetQ.normal); (case he => exact evr_); (case hg => rfl))); (all_goals first | rfl | (apply Keeps.fr; (case h => exact fr_); (case hv => exact plR.nm rfl)) | fail))
  · rw [if_neg h]
    (refine ACall.make Try.func29 rfl (by kernel_rfl) (by decide) rfl (fun N hN => ?_); have hT : Top N _ := hN; (repeat' (first | (apply Ab.K.ev; exact ev_) | (apply Ab.K.aops; first | (apply Xg.s; constructor) | (apply Ab.S.guardU; (case hd => rfl); (case hb => (exact ev_; done))) | apply Ab.S.guardG) | (apply Ab.K.aop; first | (first | (apply Ab.O.boxA (N + 0); (case hx => exact ev_); (case hid => exact frees_)) | (apply Ab.O.allocA (l := ec ⟨0, 0, 0⟩) (N + 1); (case hid => exact frees_); (case hp => rfl)) | (apply Ab.O.storeAll; (case hz => rfl); (case hx => exact ev_); (case hy => exact ev_); (case hs => exact at_); (case hl => rfl); (case hc => rfl))) | (apply Og.s; constructor)) | (apply Ab.K.gk; first | (apply Xg.s; constructor) | (apply Ab.gY; case hw => assumption) | (apply Ab.gNT; case hw => assumption) | (apply Ab.gNF; case hw => assumption) | ((first | apply Ab.gD | apply Ab.gDN); all_goals (intro _ _; (first | contradiction | (exfalso; omega) | skip)))) | (apply Ab.K.awp; first | (apply Xg.s; constructor)) | (apply Ab.K.at_; exact at_) | (apply Ab.K.acall; first | assumption | fail) | (apply Ab.Rg.mk; omega) | (apply Ab.Lt.mk; first | decide | (simp; done) | (simp; omega) | fail) | (apply Ab.Get.mk; first | rfl | fail) | (apply Ab.Nm.mk; first | exact nrm_) | (apply Xg.s; constructor) | (apply Ab.asm; assumption) | rfl | infer_instance | decide)); (all_goals ((first | apply RetQ.ret | apply RetQ.normal); (case he => exact evr_); (case hg => rfl))); (all_goals first | rfl | (apply Keeps.fr; (case h => exact fr_); (case hv => exact plR.nm rfl)) | fail))
theorem edgeV {s : AHeap} {k : Kn} (hne : k.node ≠ k.peer) : ACall Try.prog 44 [.agg (kc k).toArray] s (.agg (ec (edg k)).toArray) s := by
  obtain ⟨a0, a1, a2, a3, a4⟩ := k
  unfold edg
  simp only at *
  by_cases h : a1 < a0
  · rw [if_pos h]
    have e1 : (if a1 < a0 then a1 else a0) = a1 := if_pos h
    have e2 : (if a1 > a0 then a1 else a0) = a0 := if_neg (by omega)
    refine ACall.make Try.func44 rfl (by kernel_rfl) (by decide) rfl (fun N hN => ?_)
    have hT : Top N s := hN
    (repeat' (first | (apply Ab.K.ev; exact ev_) | (apply Ab.K.aops; first | (apply Xg.s; constructor) | (apply Ab.S.guardU; (case hd => rfl); (case hb => (exact ev_; done))) | apply Ab.S.guardG) | (apply Ab.K.aop; first | (first | (apply Ab.O.boxA (N + 0); (case hx => exact ev_); (case hid => exact frees_)) | (apply Ab.O.min2) | (apply Ab.O.max2) | (apply Ab.O.allocA (l := ec ⟨0, 0, 0⟩) (N + 1); (case hid => exact frees_); (case hp => rfl)) | (apply Ab.O.storeAll; (case hz => rfl); (case hx => exact ev_); (case hy => exact ev_); (case hs => exact at_); (case hl => rfl); (case hc => rfl))) | (apply Og.s; constructor)) | (apply Ab.K.gk; first | (apply Xg.s; constructor) | (apply Ab.gY; case hw => assumption) | (apply Ab.gNT; case hw => assumption) | (apply Ab.gNF; case hw => assumption) | ((first | apply Ab.gD | apply Ab.gDN); all_goals (intro _ _; (first | contradiction | (exfalso; omega) | skip)))) | (apply Ab.K.awp; first | (apply Xg.s; constructor)) | (apply Ab.K.at_; exact at_) | (apply Ab.K.acall; first | assumption | fail) | (apply Ab.Rg.mk; omega) | (apply Ab.Lt.mk; first | decide | (simp; done) | (simp; omega) | fail) | (apply Ab.Get.mk; first | rfl | fail) | (apply Ab.Nm.mk; first | exact nrm_) | (apply Xg.s; constructor) | (apply Ab.asm; assumption) | rfl | infer_instance | decide))
    all_goals ((first | apply RetQ.ret | apply RetQ.normal); (case he => exact evr_); (case hg => rfl))
    all_goals first | (simp only [resV, e1, e2]; rfl) | (apply Keeps.fr; (case h => exact fr_); (case hv => exact plR.nm rfl))
  · rw [if_neg h]
    have e1 : (if a1 < a0 then a1 else a0) = a0 := if_neg h
    have e2 : (if a1 > a0 then a1 else a0) = a1 := if_pos (by omega)
    refine ACall.make Try.func44 rfl (by kernel_rfl) (by decide) rfl (fun N hN => ?_)
    have hT : Top N s := hN
    (repeat' (first | (apply Ab.K.ev; exact ev_) | (apply Ab.K.aops; first | (apply Xg.s; constructor) | (apply Ab.S.guardU; (case hd => rfl); (case hb => (exact ev_; done))) | apply Ab.S.guardG) | (apply Ab.K.aop; first | (first | (apply Ab.O.boxA (N + 0); (case hx => exact ev_); (case hid => exact frees_)) | (apply Ab.O.min2) | (apply Ab.O.max2) | (apply Ab.O.allocA (l := ec ⟨0, 0, 0⟩) (N + 1); (case hid => exact frees_); (case hp => rfl)) | (apply Ab.O.storeAll; (case hz => rfl); (case hx => exact ev_); (case hy => exact ev_); (case hs => exact at_); (case hl => rfl); (case hc => rfl))) | (apply Og.s; constructor)) | (apply Ab.K.gk; first | (apply Xg.s; constructor) | (apply Ab.gY; case hw => assumption) | (apply Ab.gNT; case hw => assumption) | (apply Ab.gNF; case hw => assumption) | ((first | apply Ab.gD | apply Ab.gDN); all_goals (intro _ _; (first | contradiction | (exfalso; omega) | skip)))) | (apply Ab.K.awp; first | (apply Xg.s; constructor)) | (apply Ab.K.at_; exact at_) | (apply Ab.K.acall; first | assumption | fail) | (apply Ab.Rg.mk; omega) | (apply Ab.Lt.mk; first | decide | (simp; done) | (simp; omega) | fail) | (apply Ab.Get.mk; first | rfl | fail) | (apply Ab.Nm.mk; first | exact nrm_) | (apply Xg.s; constructor) | (apply Ab.asm; assumption) | rfl | infer_instance | decide))
    all_goals ((first | apply RetQ.ret | apply RetQ.normal); (case he => exact evr_); (case hg => rfl))
    all_goals first | (simp only [resV, e1, e2]; rfl) | (apply Keeps.fr; (case h => exact fr_); (case hv => exact plR.nm rfl))
/-! ### the order of links -/
def or2 (a b : Int) : Int := if a ≠ 0 then a else b
theorem orI2 {s : AHeap} {q : Nat} {a b : Int} (hq : At s q (.cells true 1 [.int .i64 a, .int .i64 b])) : ACall Try.prog 61 [.slice (some ⟨q, 0, none⟩) 2 2] s (.int .i64 (or2 a b)) s := by
  unfold or2
  refine ACall.make Try.func61 rfl (by kernel_rfl) (by decide) rfl (fun N hN => ?_)
  (repeat' (first | (apply Ab.K.ev; exact ev_) | (apply Ab.K.aops; first | (apply Xg.s; constructor) | (apply Ab.S.guardU; (case hd => rfl); (case hb => (exact ev_; done))) | apply Ab.S.guardG) | (apply Ab.K.aop; first | (apply Og.s; constructor)) | (apply Ab.K.gk; first | (apply Xg.s; constructor) | (apply Ab.gY; case hw => assumption) | (apply Ab.gNT; case hw => assumption) | (apply Ab.gNF; case hw => assumption) | ((first | apply Ab.gD | apply Ab.gDN); all_goals (intro _ _; (first | contradiction | (exfalso; omega) | skip)))) | (apply Ab.K.awp; first | (apply Xg.s; constructor)) | (apply Ab.K.at_; exact at_) | (apply Ab.K.acall; first | assumption | fail) | (apply Ab.Rg.mk; omega) | (apply Ab.Lt.mk; first | decide | (simp; done) | (simp; omega) | fail) | (apply Ab.Get.mk; first | rfl | fail) | (apply Ab.Nm.mk; first | exact nrm_) | (apply Xg.s; constructor) | (apply Ab.asm; assumption) | rfl | infer_instance | decide))
  refine AWp.loop (fun kk tm s1 => ∃ i : Nat, Ev tm (.tmp 3) (.int .i64 0) ∧ Ev tm (.tmp 6) (.slice (some ⟨q, 0, none⟩) 2 2) ∧ Ev tm (.tmp 7) (.int .i64 (2 : Nat)) ∧ Ev tm (.tmp 8) (.int .i64 i) ∧ s1 = s ∧ i ≤ 2 ∧ (1 ≤ i → a = 0) ∧ (2 ≤ i → b = 0) ∧ kk = 2 - i) 2 ?_ ?_
  · exact ⟨0, by exact ev_, by exact ev_, by exact ev_, by exact ev_, rfl, by omega, by omega, by omega, rfl⟩
  · rintro k tm s1 ⟨i, e3, e6, e7, e8, rfl, hi, ha, hb, hk⟩
    rcases (show i = 0 ∨ i = 1 ∨ i = 2 by omega) with rfl | rfl | rfl
    · by_cases h : a = 0
      · (repeat' (first | (apply Ab.K.ev; exact ev_) | (apply Ab.K.aops; first | (apply Xg.s; constructor) | (apply Ab.S.guardU; (case hd => rfl); (case hb => (exact ev_; done))) | apply Ab.S.guardG) | (apply Ab.K.aop; first | (apply Og.s; constructor)) | (apply Ab.K.gk; first | (apply Xg.s; constructor) | (apply Ab.gY; case hw => assumption) | (apply Ab.gNT; case hw => assumption) | (apply Ab.gNF; case hw => assumption) | ((first | apply Ab.gD | apply Ab.gDN); all_goals (intro _ _; (first | contradiction | (exfalso; omega) | skip)))) | (apply Ab.K.awp; first | (apply Xg.s; constructor)) | (apply Ab.K.at_; exact at_) | (apply Ab.K.acall; first | assumption | fail) | (apply Ab.Rg.mk; omega) | (apply Ab.Lt.mk; first | decide | (simp; done) | (simp; omega) | fail) | (apply Ab.Get.mk; first | rfl | fail) | (apply Ab.Nm.mk; first | exact nrm_) | (apply Xg.s; constructor) | (apply Ab.asm; assumption) | rfl | infer_instance | decide))
        exact X.roundN (2 - (0 + 1)) (by omega) ⟨0 + 1, by exact ev_, by exact ev_, by exact ev_, by exact ev_, rfl, by omega, fun _ => h, by omega, rfl⟩
      · rw [if_pos h]
        (repeat' (first | (apply Ab.K.ev; exact ev_) | (apply Ab.K.aops; first | (apply Xg.s; constructor) | (apply Ab.S.guardU; (case hd => rfl); (case hb => (exact ev_; done))) | apply Ab.S.guardG) | (apply Ab.K.aop; first | (apply Og.s; constructor)) | (apply Ab.K.gk; first | (apply Xg.s; constructor) | (apply Ab.gY; case hw => assumption) | (apply Ab.gNT; case hw => assumption) | (apply Ab.gNF; case hw => assumption) | ((first | apply Ab.gD | apply Ab.gDN); all_goals (intro _ _; (first | contradiction | (exfalso; omega) | skip)))) | (apply Ab.K.awp; first | (apply Xg.s; constructor)) | (apply Ab.K.at_; exact at_) | (apply Ab.K.acall; first | assumption | fail) | (apply Ab.Rg.mk; omega) | (apply Ab.Lt.mk; first | decide | (simp; done) | (simp; omega) | fail) | (apply Ab.Get.mk; first | rfl | fail) | (apply Ab.Nm.mk; first | exact nrm_) | (apply Xg.s; constructor) | (apply Ab.asm; assumption) | rfl | infer_instance | decide))
        all_goals ((first | apply RetQ.ret | apply RetQ.normal); (case he => exact evr_); (case hg => rfl))
        all_goals first | rfl | exact Keeps.self trivial
    · rw [if_neg (fun x => x (ha (by omega)))]
      by_cases h : b = 0
      · (repeat' (first | (apply Ab.K.ev; exact ev_) | (apply Ab.K.aops; first | (apply Xg.s; constructor) | (apply Ab.S.guardU; (case hd => rfl); (case hb => (exact ev_; done))) | apply Ab.S.guardG) | (apply Ab.K.aop; first | (apply Og.s; constructor)) | (apply Ab.K.gk; first | (apply Xg.s; constructor) | (apply Ab.gY; case hw => assumption) | (apply Ab.gNT; case hw => assumption) | (apply Ab.gNF; case hw => assumption) | ((first | apply Ab.gD | apply Ab.gDN); all_goals (intro _ _; (first | contradiction | (exfalso; omega) | skip)))) | (apply Ab.K.awp; first | (apply Xg.s; constructor)) | (apply Ab.K.at_; exact at_) | (apply Ab.K.acall; first | assumption | fail) | (apply Ab.Rg.mk; omega) | (apply Ab.Lt.mk; first | decide | (simp; done) | (simp; omega) | fail) | (apply Ab.Get.mk; first | rfl | fail) | (apply Ab.Nm.mk; first | exact nrm_) | (apply Xg.s; constructor) | (apply Ab.asm; assumption) | rfl | infer_instance | decide))
        exact X.roundN (2 - (1 + 1)) (by omega) ⟨1 + 1, by exact ev_, by exact ev_, by exact ev_, by exact ev_, rfl, by omega, fun _ => ha (by omega), fun _ => h, rfl⟩
      · (repeat' (first | (apply Ab.K.ev; exact ev_) | (apply Ab.K.aops; first | (apply Xg.s; constructor) | (apply Ab.S.guardU; (case hd => rfl); (case hb => (exact ev_; done))) | apply Ab.S.guardG) | (apply Ab.K.aop; first | (apply Og.s; constructor)) | (apply Ab.K.gk; first | (apply Xg.s; constructor) | (apply Ab.gY; case hw => assumption) | (apply Ab.gNT; case hw => assumption) | (apply Ab.gNF; case hw => assumption) | ((first | apply Ab.gD | apply Ab.gDN); all_goals (intro _ _; (first | contradiction | (exfalso; omega) | skip)))) | (apply Ab.K.awp; first | (apply Xg.s; constructor)) | (apply Ab.K.at_; exact at_) | (apply Ab.K.acall; first | assumption | fail) | (apply Ab.Rg.mk; omega) | (apply Ab.Lt.mk; first | decide | (simp; done) | (simp; omega) | fail) | (apply Ab.Get.mk; first | rfl | fail) | (apply Ab.Nm.mk; first | exact nrm_) | (apply Xg.s; constructor) | (apply Ab.asm; assumption) | rfl | infer_instance | decide))
        all_goals ((first | apply RetQ.ret | apply RetQ.normal); (case he => exact evr_); (case hg => rfl))
        all_goals first | rfl | exact Keeps.self trivial
    · rw [if_neg (fun x => x (ha (by omega))), hb (by omega)]
      (repeat' (first | (apply Ab.K.ev; exact ev_) | (apply Ab.K.aops; first | (apply Xg.s; constructor) | (apply Ab.S.guardU; (case hd => rfl); (case hb => (exact ev_; done))) | apply Ab.S.guardG) | (apply Ab.K.aop; first | (apply Og.s; constructor)) | (apply Ab.K.gk; first | (apply Xg.s; constructor) | (apply Ab.gY; case hw => assumption) | (apply Ab.gNT; case hw => assumption) | (apply Ab.gNF; case hw => assumption) | ((first | apply Ab.gD | apply Ab.gDN); all_goals (intro _ _; (first | contradiction | (exfalso; omega) | skip)))) | (apply Ab.K.awp; first | (apply Xg.s; constructor)) | (apply Ab.K.at_; exact at_) | (apply Ab.K.acall; first | assumption | fail) | (apply Ab.Rg.mk; omega) | (apply Ab.Lt.mk; first | decide | (simp; done) | (simp; omega) | fail) | (apply Ab.Get.mk; first | rfl | fail) | (apply Ab.Nm.mk; first | exact nrm_) | (apply Xg.s; constructor) | (apply Ab.asm; assumption) | rfl | infer_instance | decide))
      all_goals ((first | apply RetQ.ret | apply RetQ.normal); (case he => exact evr_); (case hg => rfl))
      all_goals first | rfl | exact Keeps.self trivial
/-- How links are ordered. -/
def ord2 (a b : Kn) : Int := or2 (cmp3 a.node b.node) (cmp3 a.peer b.peer)
theorem ord2_neg {a b : Kn} : ord2 a b < 0 ↔ VP.ahead a b := by unfold ord2 or2 cmp3 VP.ahead; grind
theorem ord2_zero {a b : Kn} : ord2 a b = 0 ↔ a.node = b.node ∧ a.peer = b.peer := by unfold ord2 or2 cmp3; grind
theorem orderV {s : AHeap} {e f : Kn} : ACall Try.prog 56 [.agg (kc e).toArray, .agg (kc f).toArray] s (.int .i64 (ord2 e f)) s := by
  obtain ⟨a1, a2, a3, a4, a5⟩ := e
  obtain ⟨b1, b2, b3, b4, b5⟩ := f
  unfold ord2
  simp only
  have c1 : ∀ s' : AHeap, ∀ q a b, At s' q (.cells true 1 [.int .i64 a, .int .i64 b]) → ACall Try.prog 61 [.slice (some ⟨q, 0, none⟩) 2 2] s' (.int .i64 (or2 a b)) s' := fun s' q a b h => orI2 h
  refine ACall.make Try.func56 rfl (by kernel_rfl) (by decide) rfl (fun N hN => ?_)
  have hT : Top N s := hN

  (repeat' (first | (apply Ab.K.ev; exact ev_) | (apply Ab.K.aops; first | (apply Xg.s; constructor) | (apply Ab.S.guardU; (case hd => rfl); (case hb => (exact ev_; done))) | apply Ab.S.guardG) | (apply Ab.K.aop; first | (first | (apply Ab.O.boxA (N + 0); (case hx => exact ev_); (case hid => exact frees_)) | (apply Ab.O.boxA (N + 1); (case hx => exact ev_); (case hid => exact frees_)) | (apply Ab.O.buildSlice (N + 2) (te := ⟨.int .i64, 1, 8, .int .i64 0⟩) (c := [.int .i64 (cmp3 a1 b1), .int .i64 (cmp3 a2 b2)]); (case hp => exact evp_); (case hz => exact ⟨rfl, by decide, rfl⟩); (case hc => rfl); (case hid => exact free_))) | (apply Og.s; constructor)) | (apply Ab.K.gk; first | (apply Xg.s; constructor) | (apply Ab.gY; case hw => assumption) | (apply Ab.gNT; case hw => assumption) | (apply Ab.gNF; case hw => assumption) | ((first | apply Ab.gD | apply Ab.gDN); all_goals (intro _ _; (first | contradiction | (exfalso; omega) | skip)))) | (apply Ab.K.aopsD; first | (apply Ab.D.q0t; (case hw => rfl); (case hot => rfl)) | (apply Ab.D.w1t; (case hw => rfl); (case hot => rfl)) | (apply Ab.D.q0; (case hw => rfl); intro _ _) | (apply Ab.D.w1n; (case hw => rfl); intro _ _) | (apply Ab.D.w2n; (case hw => rfl); intro _ _) | (apply Xg.s; constructor) | (apply Ab.D.guardU; (case hd => rfl); (case hb => (exact ev_; done))) | apply Ab.D.guardG) | exact ⟨rfl, rfl⟩ | (apply Ab.K.awp; first | (apply AWp.draw (id := 1) [[], [0], [], [2], [0, 1, 2, 3], [], [5], [], [7], [0, 1, 2, 3, 4, 5, 6, 7, 8], [0, 1, 2, 3, 4, 5, 6, 7, 8, 9], [0, 1, 2, 3, 4, 5, 6, 7, 8, 9, 10], [0, 1, 2, 3, 4, 5, 6, 7, 8, 9, 10, 11]] [(10, [N + 2])] (by kernel_rfl) (by kernel_rfl) (by simp [apartW, unordB, cC] <;> omega)) | (apply Xg.s; constructor)) | (apply Ab.K.at_; exact at_) | (apply Ab.K.acall; first | assumption | first | exact cmp49 | exact c1 _ _ (cmp3 a1 b1) (cmp3 a2 b2) (by exact at_)) | (apply Ab.Rg.mk; omega) | (apply Ab.Lt.mk; first | decide | (simp; done) | (simp; omega) | fail) | (apply Ab.Get.mk; first | rfl | fail) | (apply Ab.Nm.mk; first | exact nrm_) | (apply Xg.s; constructor) | (apply Ab.asm; assumption) | rfl | infer_instance | decide))
  all_goals ((first | apply RetQ.ret | apply RetQ.normal); (case he => exact evr_); (case hg => rfl))
  all_goals first | rfl | (apply Keeps.fr; (case h => exact fr_); (case hv => exact plR.nm rfl))

/-! ### is a number among some -/
theorem in09 {s : AHeap} {A : Option Addr} {n c : Nat} {on : Option Nat} {l : List Int} {x : Int} (h : NA s (.slice A n c) on l) (hn : n < 4611686018427387904) : ACall Try.prog 41 [.slice A n c, .int .i64 x] s (.bool (decide (x ∈ l))) s := by
  have hnl : n = l.length := by obtain ⟨_, _, e⟩ := h.isl; injection e
  refine ACall.make Try.func41 rfl (by kernel_rfl) (by decide) rfl (fun N hN => ?_)
  clear hN
  (repeat' (first | (apply Ab.K.ev; exact ev_) | (apply Ab.K.aops; first | (apply Xg.s; constructor) | (apply Ab.S.guardU; (case hd => rfl); (case hb => (exact ev_; done))) | apply Ab.S.guardG) | (apply Ab.K.aop; first | (apply Og.s; constructor)) | (apply Ab.K.gk; first | (apply Xg.s; constructor) | (apply Ab.gY; case hw => assumption) | (apply Ab.gNT; case hw => assumption) | (apply Ab.gNF; case hw => assumption) | ((first | apply Ab.gD | apply Ab.gDN); all_goals (intro _ _; (first | contradiction | (exfalso; omega) | skip)))) | (apply Ab.K.awp; first | (apply Xg.s; constructor)) | (apply Ab.K.at_; exact at_) | (apply Ab.K.acall; first | assumption | fail) | (apply Ab.Rg.mk; omega) | (apply Ab.Lt.mk; first | decide | (simp; done) | (simp; omega) | fail) | (apply Ab.Get.mk; first | rfl | fail) | (apply Ab.Nm.mk; first | exact nrm_) | (apply Xg.s; constructor) | (apply Ab.asm; assumption) | rfl | infer_instance | decide))
  refine AWp.loop (fun kk tm s1 => ∃ i : Nat, Ev tm (.tmp 0) (.slice A n c) ∧ Ev tm (.tmp 1) (.int .i64 x) ∧ Ev tm (.tmp 5) (.int .i64 i) ∧ s1 = s ∧ x ∉ l.take i ∧ i ≤ n ∧ kk = n - i) n ?_ ?_
  · exact ⟨0, by exact ev_, by exact ev_, by exact ev_, rfl, by simp, by omega, rfl⟩
  rintro kk tm s1 ⟨i, e0, e1, e5, rfl, hx, hi, hkk⟩
  by_cases hin : i < n
  · obtain ⟨y, hy⟩ : ∃ y, l[i]? = some y := ⟨_, List.getElem?_eq_getElem (by omega)⟩
    have htk : l.take (i + 1) = l.take i ++ [y] := by rw [List.take_add_one, hy]; rfl
    obtain ⟨q, rw1, cs, rfl, _, _, hq, g0⟩ := h.elt hy
    by_cases hyx : y = x
    · have hm : x ∈ l := hyx ▸ List.mem_of_getElem? hy
      rw [decide_eq_true hm]
      (repeat' (first | (apply Ab.K.ev; exact ev_) | (apply Ab.K.aops; first | (apply Xg.s; constructor) | (apply Ab.S.guardU; (case hd => rfl); (case hb => (exact ev_; done))) | apply Ab.S.guardG) | (apply Ab.K.aop; first | (apply Og.s; constructor)) | (apply Ab.K.gk; first | (apply Xg.s; constructor) | (apply Ab.gY; case hw => assumption) | (apply Ab.gNT; case hw => assumption) | (apply Ab.gNF; case hw => assumption) | ((first | apply Ab.gD | apply Ab.gDN); all_goals (intro _ _; (first | contradiction | (exfalso; omega) | skip)))) | (apply Ab.K.awp; first | (apply Xg.s; constructor)) | (apply Ab.K.at_; exact at_) | (apply Ab.K.acall; first | assumption | fail) | (apply Ab.Rg.mk; omega) | (apply Ab.Lt.mk; first | decide | (simp; done) | (simp; omega) | fail) | (apply Ab.Get.mk; first | rfl | (rw [Int.toNat_natCast]; exact g0)) | (apply Ab.Nm.mk; first | exact nrm_) | (apply Xg.s; constructor) | (apply Ab.asm; assumption) | rfl | infer_instance | decide))
      all_goals ((first | apply RetQ.ret | apply RetQ.normal); (case he => exact evr_); (case hg => rfl))
      all_goals first | rfl | exact Keeps.self trivial
    · (repeat' (first | (apply Ab.K.ev; exact ev_) | (apply Ab.K.aops; first | (apply Xg.s; constructor) | (apply Ab.S.guardU; (case hd => rfl); (case hb => (exact ev_; done))) | apply Ab.S.guardG) | (apply Ab.K.aop; first | (apply Og.s; constructor)) | (apply Ab.K.gk; first | (apply Xg.s; constructor) | (apply Ab.gY; case hw => assumption) | (apply Ab.gNT; case hw => assumption) | (apply Ab.gNF; case hw => assumption) | ((first | apply Ab.gD | apply Ab.gDN); all_goals (intro _ _; (first | contradiction | (exfalso; omega) | skip)))) | (apply Ab.K.awp; first | (apply Xg.s; constructor)) | (apply Ab.K.at_; exact at_) | (apply Ab.K.acall; first | assumption | fail) | (apply Ab.Rg.mk; omega) | (apply Ab.Lt.mk; first | decide | (simp; done) | (simp; omega) | fail) | (apply Ab.Get.mk; first | rfl | (rw [Int.toNat_natCast]; exact g0)) | (apply Ab.Nm.mk; first | exact nrm_) | (apply Xg.s; constructor) | (apply Ab.asm; assumption) | rfl | infer_instance | decide))
      exact X.roundN (n - (i + 1)) (by omega) ⟨i + 1, by exact ev_, by exact ev_, by exact ev_, rfl, by rw [htk, List.mem_append, List.mem_singleton]; exact fun h => h.elim hx fun e => hyx e.symm, by omega, rfl⟩
  · obtain rfl : i = n := by omega
    rw [hnl, List.take_length] at hx
    rw [decide_eq_false hx]
    (repeat' (first | (apply Ab.K.ev; exact ev_) | (apply Ab.K.aops; first | (apply Xg.s; constructor) | (apply Ab.S.guardU; (case hd => rfl); (case hb => (exact ev_; done))) | apply Ab.S.guardG) | (apply Ab.K.aop; first | (apply Og.s; constructor)) | (apply Ab.K.gk; first | (apply Xg.s; constructor) | (apply Ab.gY; case hw => assumption) | (apply Ab.gNT; case hw => assumption) | (apply Ab.gNF; case hw => assumption) | ((first | apply Ab.gD | apply Ab.gDN); all_goals (intro _ _; (first | contradiction | (exfalso; omega) | skip)))) | (apply Ab.K.awp; first | (apply Xg.s; constructor)) | (apply Ab.K.at_; exact at_) | (apply Ab.K.acall; first | assumption | fail) | (apply Ab.Rg.mk; omega) | (apply Ab.Lt.mk; first | decide | (simp; done) | (simp; omega) | fail) | (apply Ab.Get.mk; first | rfl | (rw [Int.toNat_natCast]; exact g0)) | (apply Ab.Nm.mk; first | exact nrm_) | (apply Xg.s; constructor) | (apply Ab.asm; assumption) | rfl | infer_instance | decide))
    all_goals ((first | apply RetQ.ret | apply RetQ.normal); (case he => exact evr_); (case hg => rfl))
    all_goals first | rfl | exact Keeps.self trivial
theorem indexI {s : AHeap} {A : Option Addr} {n c : Nat} {on : Option Nat} {l : List Int} {x : Int} (h : NA s (.slice A n c) on l) (hn : n < 4611686018427387904) :
    ∃ i : Int, ACall Try.prog 50 [.slice A n c, .int .i64 x] s (.int .i64 i) s ∧ (0 ≤ i ↔ x ∈ l) := by
  have hnl : n = l.length := by obtain ⟨_, _, e⟩ := h.isl; injection e
  have hex : ∃ i : Int, (i = -1 ∧ x ∉ l) ∨ ∃ k : Nat, i = k ∧ l[k]? = some x ∧ x ∉ l.take k := by
    by_cases hx : x ∈ l
    · refine ⟨(l.idxOf x : Nat), .inr ⟨l.idxOf x, rfl, ?_, ?_⟩⟩
      · rw [List.getElem?_eq_getElem (List.idxOf_lt_length_of_mem hx), List.getElem_idxOf]
      · intro hm
        obtain ⟨j, hj⟩ := List.mem_iff_getElem?.1 hm
        have hjl : j < l.idxOf x := by have := (List.getElem?_eq_some_iff.1 hj).1; rw [List.length_take] at this; omega
        rw [List.getElem?_take, if_pos hjl] at hj
        have := List.not_of_lt_findIdx (p := (· == x)) (xs := l) (i := j) hjl
        obtain ⟨a1, a2⟩ := List.getElem?_eq_some_iff.1 hj
        rw [a2] at this; simp at this
    · exact ⟨-1, .inl ⟨rfl, hx⟩⟩
  obtain ⟨r, hr⟩ := hex
  refine ⟨r, ?_, ?_⟩
  · refine ACall.make Try.func50 rfl (by kernel_rfl) (by decide) rfl (fun N hN => ?_)
    clear hN
    (repeat' (first | (apply Ab.K.ev; exact ev_) | (apply Ab.K.aops; first | (apply Xg.s; constructor) | (apply Ab.S.guardU; (case hd => rfl); (case hb => (exact ev_; done))) | apply Ab.S.guardG) | (apply Ab.K.aop; first | (apply Og.s; constructor)) | (apply Ab.K.gk; first | (apply Xg.s; constructor) | (apply Ab.gY; case hw => assumption) | (apply Ab.gNT; case hw => assumption) | (apply Ab.gNF; case hw => assumption) | ((first | apply Ab.gD | apply Ab.gDN); all_goals (intro _ _; (first | contradiction | (exfalso; omega) | skip)))) | (apply Ab.K.awp; first | (apply Xg.s; constructor)) | (apply Ab.K.at_; exact at_) | (apply Ab.K.acall; first | assumption | fail) | (apply Ab.Rg.mk; omega) | (apply Ab.Lt.mk; first | decide | (simp; done) | (simp; omega) | fail) | (apply Ab.Get.mk; first | rfl | (rw [Int.toNat_natCast]; exact g0)) | (apply Ab.Nm.mk; first | exact nrm_) | (apply Xg.s; constructor) | (apply Ab.asm; assumption) | rfl | infer_instance | decide))
    refine AWp.loop (fun kk tm s1 => ∃ i : Nat, Ev tm (.tmp 0) (.slice A n c) ∧ Ev tm (.tmp 1) (.int .i64 x) ∧ Ev tm (.tmp 7) (.int .i64 n) ∧ Ev tm (.tmp 8) (.int .i64 i) ∧ s1 = s ∧ x ∉ l.take i ∧ i ≤ n ∧ kk = n - i) n ?_ ?_
    · exact ⟨0, by exact ev_, by exact ev_, by exact ev_, by exact ev_, rfl, by simp, by omega, rfl⟩
    rintro kk tm s1 ⟨i, e0, e1, e7, e8, rfl, hx, hi, hkk⟩
    by_cases hin : i < n
    · obtain ⟨y, hy⟩ : ∃ y, l[i]? = some y := ⟨_, List.getElem?_eq_getElem (by omega)⟩
      have htk : l.take (i + 1) = l.take i ++ [y] := by rw [List.take_add_one, hy]; rfl
      obtain ⟨q, rw1, cs, rfl, _, _, hq, g0⟩ := h.elt hy
      by_cases hyx : x = y
      · have hm : x ∈ l := hyx ▸ List.mem_of_getElem? hy
        have hri : r = i := by
          rcases hr with ⟨_, h2⟩ | ⟨k, rfl, h2, h3⟩
          · exact absurd hm h2
          · rcases Nat.lt_trichotomy k i with h4 | rfl | h4
            · exact absurd (List.mem_of_getElem? (i := k) (by rw [List.getElem?_take, if_pos h4]; exact h2)) hx
            · rfl
            · exact absurd (List.mem_of_getElem? (i := i) (by rw [List.getElem?_take, if_pos h4, hyx]; exact hy)) h3
        rw [hri]
        (repeat' (first | (apply Ab.K.ev; exact ev_) | (apply Ab.K.aops; first | (apply Xg.s; constructor) | (apply Ab.S.guardU; (case hd => rfl); (case hb => (exact ev_; done))) | apply Ab.S.guardG) | (apply Ab.K.aop; first | (apply Og.s; constructor)) | (apply Ab.K.gk; first | (apply Xg.s; constructor) | (apply Ab.gY; case hw => assumption) | (apply Ab.gNT; case hw => assumption) | (apply Ab.gNF; case hw => assumption) | ((first | apply Ab.gD | apply Ab.gDN); all_goals (intro _ _; (first | contradiction | (exfalso; omega) | skip)))) | (apply Ab.K.awp; first | (apply Xg.s; constructor)) | (apply Ab.K.at_; exact at_) | (apply Ab.K.acall; first | assumption | fail) | (apply Ab.Rg.mk; omega) | (apply Ab.Lt.mk; first | decide | (simp; done) | (simp; omega) | fail) | (apply Ab.Get.mk; first | rfl | (rw [Int.toNat_natCast]; exact g0)) | (apply Ab.Nm.mk; first | exact nrm_) | (apply Xg.s; constructor) | (apply Ab.asm; assumption) | rfl | infer_instance | decide))
        all_goals ((first | apply RetQ.ret | apply RetQ.normal); (case he => exact evr_); (case hg => rfl))
        all_goals first | rfl | exact Keeps.self trivial
      · (repeat' (first | (apply Ab.K.ev; exact ev_) | (apply Ab.K.aops; first | (apply Xg.s; constructor) | (apply Ab.S.guardU; (case hd => rfl); (case hb => (exact ev_; done))) | apply Ab.S.guardG) | (apply Ab.K.aop; first | (apply Og.s; constructor)) | (apply Ab.K.gk; first | (apply Xg.s; constructor) | (apply Ab.gY; case hw => assumption) | (apply Ab.gNT; case hw => assumption) | (apply Ab.gNF; case hw => assumption) | ((first | apply Ab.gD | apply Ab.gDN); all_goals (intro _ _; (first | contradiction | (exfalso; omega) | skip)))) | (apply Ab.K.awp; first | (apply Xg.s; constructor)) | (apply Ab.K.at_; exact at_) | (apply Ab.K.acall; first | assumption | fail) | (apply Ab.Rg.mk; omega) | (apply Ab.Lt.mk; first | decide | (simp; done) | (simp; omega) | fail) | (apply Ab.Get.mk; first | rfl | (rw [Int.toNat_natCast]; exact g0)) | (apply Ab.Nm.mk; first | exact nrm_) | (apply Xg.s; constructor) | (apply Ab.asm; assumption) | rfl | infer_instance | decide))
        exact X.roundN (n - (i + 1)) (by omega) ⟨i + 1, by exact ev_, by exact ev_, by exact ev_, by exact ev_, rfl, by rw [htk, List.mem_append, List.mem_singleton]; exact fun h => h.elim hx hyx, by omega, rfl⟩
    · obtain rfl : i = n := by omega
      rw [hnl, List.take_length] at hx
      have hr1 : r = -1 := by
        rcases hr with ⟨h1, _⟩ | ⟨k, _, h2, _⟩
        · exact h1
        · exact absurd (List.mem_of_getElem? h2) hx
      rw [hr1]
      (repeat' (first | (apply Ab.K.ev; exact ev_) | (apply Ab.K.aops; first | (apply Xg.s; constructor) | (apply Ab.S.guardU; (case hd => rfl); (case hb => (exact ev_; done))) | apply Ab.S.guardG) | (apply Ab.K.aop; first | (apply Og.s; constructor)) | (apply Ab.K.gk; first | (apply Xg.s; constructor) | (apply Ab.gY; case hw => assumption) | (apply Ab.gNT; case hw => assumption) | (apply Ab.gNF; case hw => assumption) | ((first | apply Ab.gD | apply Ab.gDN); all_goals (intro _ _; (first | contradiction | (exfalso; omega) | skip)))) | (apply Ab.K.awp; first | (apply Xg.s; constructor)) | (apply Ab.K.at_; exact at_) | (apply Ab.K.acall; first | assumption | fail) | (apply Ab.Rg.mk; omega) | (apply Ab.Lt.mk; first | decide | (simp; done) | (simp; omega) | fail) | (apply Ab.Get.mk; first | rfl | (rw [Int.toNat_natCast]; exact g0)) | (apply Ab.Nm.mk; first | exact nrm_) | (apply Xg.s; constructor) | (apply Ab.asm; assumption) | rfl | infer_instance | decide))
      all_goals ((first | apply RetQ.ret | apply RetQ.normal); (case he => exact evr_); (case hg => rfl))
      all_goals first | rfl | exact Keeps.self trivial
  · rcases hr with ⟨rfl, h2⟩ | ⟨k, rfl, h2, _⟩
    · exact ⟨fun h => by omega, fun h => absurd h h2⟩
    · exact ⟨fun _ => List.mem_of_getElem? h2, fun _ => by omega⟩
theorem containsI {s : AHeap} {A : Option Addr} {n c : Nat} {on : Option Nat} {l : List Int} {x : Int} (h : NA s (.slice A n c) on l) (hn : n < 4611686018427387904) : ACall Try.prog 33 [.slice A n c, .int .i64 x] s (.bool (decide (x ∈ l))) s := by
  obtain ⟨i, c50, hi⟩ := indexI (x := x) h hn
  by_cases hx : x ∈ l
  · have h0 := hi.2 hx
    rw [decide_eq_true hx]
    (refine ACall.make Try.func33 rfl (by kernel_rfl) (by decide) rfl (fun N hN => ?_); have hT : Top N _ := hN; (repeat' (first | (apply Ab.K.ev; exact ev_) | (apply Ab.K.aops; first | (apply Xg.s; constructor) | (apply Ab.S.guardU; (case hd => rfl); (case hb => (exact ev_; done))) | apply Ab.S.guardG) | (apply Ab.K.aop; first | (apply Og.s; constructor)) | (apply Ab.K.gk; first | (apply Xg.s; constructor) | (apply Ab.gY; case hw => assumption) | (apply Ab.gNT; case hw => assumption) | (apply Ab.gNF; case hw => assumption) | ((first | apply Ab.gD | apply Ab.gDN); all_goals (intro _ _; (first | contradiction | (exfalso; omega) | skip)))) | (apply Ab.K.awp; first | (apply Xg.s; constructor)) | (apply Ab.K.at_; exact at_) | (apply Ab.K.acall; first | assumption | exact c50) | (apply Ab.Rg.mk; omega) | (apply Ab.Lt.mk; first | decide | (simp; done) | (simp; omega) | fail) | (apply Ab.Get.mk; first | rfl | (rw [Int.toNat_natCast]; exact g0)) | (apply Ab.Nm.mk; first | exact nrm_) | (apply Xg.s; constructor) | (apply Ab.asm; assumption) | rfl | infer_instance | decide)); (all_goals ((first | apply RetQ.ret | apply RetQ.normal); (case he => exact evr_); (case hg => rfl))); (all_goals first | rfl | (apply Keeps.fr; (case h => exact fr_); (case hv => exact plR.nm rfl)) | (simp only [resV]; congr 1; exact decide_eq_true h0)))
  · have h0 : ¬ 0 ≤ i := fun h => hx (hi.1 h)
    rw [decide_eq_false hx]
    (refine ACall.make Try.func33 rfl (by kernel_rfl) (by decide) rfl (fun N hN => ?_); have hT : Top N _ := hN; (repeat' (first | (apply Ab.K.ev; exact ev_) | (apply Ab.K.aops; first | (apply Xg.s; constructor) | (apply Ab.S.guardU; (case hd => rfl); (case hb => (exact ev_; done))) | apply Ab.S.guardG) | (apply Ab.K.aop; first | (apply Og.s; constructor)) | (apply Ab.K.gk; first | (apply Xg.s; constructor) | (apply Ab.gY; case hw => assumption) | (apply Ab.gNT; case hw => assumption) | (apply Ab.gNF; case hw => assumption) | ((first | apply Ab.gD | apply Ab.gDN); all_goals (intro _ _; (first | contradiction | (exfalso; omega) | skip)))) | (apply Ab.K.awp; first | (apply Xg.s; constructor)) | (apply Ab.K.at_; exact at_) | (apply Ab.K.acall; first | assumption | exact c50) | (apply Ab.Rg.mk; omega) | (apply Ab.Lt.mk; first | decide | (simp; done) | (simp; omega) | fail) | (apply Ab.Get.mk; first | rfl | (rw [Int.toNat_natCast]; exact g0)) | (apply Ab.Nm.mk; first | exact nrm_) | (apply Xg.s; constructor) | (apply Ab.asm; assumption) | rfl | infer_instance | decide)); (all_goals ((first | apply RetQ.ret | apply RetQ.normal); (case he => exact evr_); (case hg => rfl))); (all_goals first | rfl | (apply Keeps.fr; (case h => exact fr_); (case hv => exact plR.nm rfl)) | (simp only [resV]; congr 1; exact decide_eq_false h0)))
end Go.Proofs.Ytdbnpghckgmaoaa

/- trees: the document's forests, which edges may be together. -/
namespace Go.Proofs.Ytdbnpghckgmaoaa
set_option linter.unusedVariables false
set_option linter.unusedSimpArgs false
set_option linter.unusedSectionVars false
open Go.RowKit Ab TP
attribute [local irreducible] AOps AOpsD AOp AWp put nargs AHeap.set At Free ACall thenQ blockQ roundQ RetQ Src bsn
theorem EA.take {s : AHeap} {q n c i : Nat} {on : Option Nat} {l : List E} (h : EA s (.slice (some ⟨q, 0, none⟩) n c) on l) (hi : i ≤ n) : EA s (.slice (some ⟨q, 0, none⟩) i c) on (l.take i) := by
  cases h with
  | @blk _ _ rw cs _ h a b =>
    have hl : (l.take i).length = i := by rw [List.length_take]; omega
    have := EA.blk (c := c) (l := l.take i) h (by omega) (by
      rw [hl]
      have h2 : (cs.take (l.length * 3)).take (i * 3) = cs.take (i * 3) := by rw [List.take_take]; congr 1; omega
      rw [← h2, b]
      have : ecs l = ecs (l.take i) ++ ecs (l.drop i) := by rw [← ecs_append, List.take_append_drop]
      rw [this, List.take_left' (by rw [ecs_length, hl])])
    rwa [hl] at this
noncomputable def foB (l : List E) : Bool := open Classical in decide (Forest l)
theorem foB_iff {l : List E} : foB l = true ↔ Forest l := by simp [foB]
theorem forest22 {s : AHeap} {A : Option Addr} {n c : Nat} {on : Option Nat} {l : List E} (h : EA s (.slice A n c) on l) (hl : ∀ e ∈ l, TP.Node e.a ∧ TP.Node e.b) (hn : n < 4611686018427387904) :
    ACall Try.prog 27 [.slice A n c] s (.bool (foB l)) s := by
  have hnl : n = l.length := by obtain ⟨_, _, e⟩ := h.isl; injection e
  refine ACall.make Try.func27 rfl (by kernel_rfl) (by decide) rfl (fun N hN => ?_)
  (repeat' (first | (apply Ab.K.ev; exact ev_) | (apply Ab.K.aops; first | (apply Xg.s; constructor) | (apply Ab.S.guardU; (case hd => rfl); (case hb => (exact ev_; done))) | apply Ab.S.guardG) | (apply Ab.K.aop; first | (apply Og.s; constructor)) | (apply Ab.K.gk; first | (apply Xg.s; constructor) | (apply Ab.gY; case hw => assumption) | (apply Ab.gNT; case hw => assumption) | (apply Ab.gNF; case hw => assumption) | ((first | apply Ab.gD | apply Ab.gDN); all_goals (intro _ _; (first | contradiction | (exfalso; omega) | skip)))) | (apply Ab.K.awp; first | (apply Xg.s; constructor)) | (apply Ab.K.at_; exact at_) | (apply Ab.K.acall; first | assumption | fail) | (apply Ab.Rg.mk; omega) | (apply Ab.Lt.mk; first | decide | (simp; done) | (simp; omega) | fail) | (apply Ab.Get.mk; first | rfl | fail) | (apply Ab.Nm.mk; first | exact nrm_) | (apply Xg.s; constructor) | (apply Ab.asm; assumption) | rfl | infer_instance | decide))
  refine AWp.loop (fun kk tm s1 => ∃ i : Nat, Ev tm (.tmp 0) (.slice A n c) ∧ Ev tm (.tmp 3) (.int .i64 i) ∧ s1 = s ∧ i ≤ n ∧ (∀ j, j < i → ∀ e, l[j]? = some e → ¬ Conn (l.take j) e.a e.b) ∧ kk = n - i) n ?_ ?_
  · exact ⟨0, by exact ev_, by exact ev_, rfl, by omega, fun j hj => by omega, rfl⟩
  rintro k tm s1 ⟨i, ev0, ev3, rfl, hi, hall, hk⟩
  by_cases hlt : i < n
  · have hi' : l[i]? = some (l[i]'(by omega)) := List.getElem?_eq_getElem (by omega)
    obtain ⟨e, hee⟩ : ∃ e, e = l[i]'(by omega) := ⟨_, rfl⟩
    rw [← hee] at hi'
    have hne := hl e (List.mem_of_getElem? hi')
    have h0 := h
    obtain ⟨q, rw1, cs, rfl, hon, _, hq, _, _, g0, g1, _⟩ := h0.elt hi'
    have hc : n ≤ c := by cases h with | blk a b c => exact hnl ▸ b
    have hb : lkB (l.take i) e.a e.b = true ↔ Conn (l.take i) e.a e.b := lkB_iff.trans ⟨fun h => h.2.2, fun h => ⟨hne.1, hne.2, h⟩⟩
    have c9 := linked9 (a := e.a) (b := e.b) (h.take (i := i) (by omega)) (fun f hf => hl f (List.mem_of_mem_take hf)) (by omega)


    cases hlk : lkB (l.take i) e.a e.b
    · rw [hlk] at c9
      (repeat' (first | (apply Ab.K.ev; exact ev_) | (apply Ab.K.aops; first | (apply Xg.s; constructor) | (apply Ab.S.guardU; (case hd => rfl); (case hb => (exact ev_; done))) | apply Ab.S.guardG) | (apply Ab.K.aop; first | (apply Og.s; constructor)) | (apply Ab.K.gk; first | (apply Xg.s; constructor) | (apply Ab.gY; case hw => assumption) | (apply Ab.gNT; case hw => assumption) | (apply Ab.gNF; case hw => assumption) | ((first | apply Ab.gD | apply Ab.gDN); all_goals (intro _ _; (first | contradiction | (exfalso; omega) | skip)))) | (apply Ab.K.aopsD; first | (apply Ab.D.q0t; (case hw => rfl); (case hot => rfl)) | (apply Ab.D.w1t; (case hw => rfl); (case hot => rfl)) | (apply Ab.D.q0; (case hw => rfl); intro _ _) | (apply Ab.D.w1n; (case hw => rfl); intro _ _) | (apply Ab.D.w2n; (case hw => rfl); intro _ _) | (apply Xg.s; constructor) | fail | apply Ab.D.guardG) | exact ⟨rfl, rfl⟩ | (apply Ab.K.awp; first | (apply AWp.draw (id := 4) [[], [], [0, 1], [], [], [3, 4], [3, 4, 5], [3, 4, 5, 6], [], [], [8, 9], [8, 9, 10], [8, 9, 10, 11], [0, 1, 2, 3, 4, 5, 6, 7, 8, 9, 10, 11, 12]] [] (by kernel_rfl) (by kernel_rfl) (by simp [apartW, unordB, cC] <;> omega)) | (apply Xg.s; constructor)) | (apply Ab.K.at_; exact at_) | (apply Ab.K.acall; first | assumption | exact c9) | (apply Ab.Rg.mk; omega) | (apply Ab.Lt.mk; first | decide | (simp; done) | (simp; omega) | fail) | (apply Ab.Get.mk; first | rfl | (rw [Int.toNat_natCast]; first | exact g0 | exact g1)) | (apply Ab.Nm.mk; first | exact nrm_) | (apply Xg.s; constructor) | (apply Ab.asm; assumption) | rfl | infer_instance | decide))
      exact X.roundN (n - (i + 1)) (by omega) ⟨i + 1, by exact ev_, by exact ev_, rfl, by omega, fun j hj f hf hcon => (by
        by_cases hji : j = i
        · subst hji
          rw [hi'] at hf
          obtain rfl := Option.some.inj hf
          rw [hb.2 hcon] at hlk; cases hlk
        · exact hall j (by omega) f hf hcon), rfl⟩
    · rw [hlk] at c9
      have hf : foB l = false := by
        cases hh : foB l with
        | false => rfl
        | true => exact absurd (hb.1 hlk) (foB_iff.1 hh i e hi')
      rw [hf]
      (repeat' (first | (apply Ab.K.ev; exact ev_) | (apply Ab.K.aops; first | (apply Xg.s; constructor) | (apply Ab.S.guardU; (case hd => rfl); (case hb => (exact ev_; done))) | apply Ab.S.guardG) | (apply Ab.K.aop; first | (apply Og.s; constructor)) | (apply Ab.K.gk; first | (apply Xg.s; constructor) | (apply Ab.gY; case hw => assumption) | (apply Ab.gNT; case hw => assumption) | (apply Ab.gNF; case hw => assumption) | ((first | apply Ab.gD | apply Ab.gDN); all_goals (intro _ _; (first | contradiction | (exfalso; omega) | skip)))) | (apply Ab.K.aopsD; first | (apply Ab.D.q0t; (case hw => rfl); (case hot => rfl)) | (apply Ab.D.w1t; (case hw => rfl); (case hot => rfl)) | (apply Ab.D.q0; (case hw => rfl); intro _ _) | (apply Ab.D.w1n; (case hw => rfl); intro _ _) | (apply Ab.D.w2n; (case hw => rfl); intro _ _) | (apply Xg.s; constructor) | fail | apply Ab.D.guardG) | exact ⟨rfl, rfl⟩ | (apply Ab.K.awp; first | (apply AWp.draw (id := 4) [[], [], [0, 1], [], [], [3, 4], [3, 4, 5], [3, 4, 5, 6], [], [], [8, 9], [8, 9, 10], [8, 9, 10, 11], [0, 1, 2, 3, 4, 5, 6, 7, 8, 9, 10, 11, 12]] [] (by kernel_rfl) (by kernel_rfl) (by simp [apartW, unordB, cC] <;> omega)) | (apply Xg.s; constructor)) | (apply Ab.K.at_; exact at_) | (apply Ab.K.acall; first | assumption | exact c9) | (apply Ab.Rg.mk; omega) | (apply Ab.Lt.mk; first | decide | (simp; done) | (simp; omega) | fail) | (apply Ab.Get.mk; first | rfl | (rw [Int.toNat_natCast]; first | exact g0 | exact g1)) | (apply Ab.Nm.mk; first | exact nrm_) | (apply Xg.s; constructor) | (apply Ab.asm; assumption) | rfl | infer_instance | decide))
      all_goals ((first | apply RetQ.ret | apply RetQ.normal); (case he => exact evr_); (case hg => rfl))
      all_goals first | rfl | exact Keeps.self trivial
  · have hf : foB l = true := foB_iff.2 fun j e hj hcon => hall j (by have := (List.getElem?_eq_some_iff.1 hj).1; omega) e hj hcon
    rw [hf]
    (repeat' (first | (apply Ab.K.ev; exact ev_) | (apply Ab.K.aops; first | (apply Xg.s; constructor) | (apply Ab.S.guardU; (case hd => rfl); (case hb => (exact ev_; done))) | apply Ab.S.guardG) | (apply Ab.K.aop; first | (apply Og.s; constructor)) | (apply Ab.K.gk; first | (apply Xg.s; constructor) | (apply Ab.gY; case hw => assumption) | (apply Ab.gNT; case hw => assumption) | (apply Ab.gNF; case hw => assumption) | ((first | apply Ab.gD | apply Ab.gDN); all_goals (intro _ _; (first | contradiction | (exfalso; omega) | skip)))) | (apply Ab.K.awp; first | (apply Xg.s; constructor)) | (apply Ab.K.at_; exact at_) | (apply Ab.K.acall; first | assumption | exact c9) | (apply Ab.Rg.mk; omega) | (apply Ab.Lt.mk; first | decide | (simp; done) | (simp; omega) | fail) | (apply Ab.Get.mk; first | rfl | (rw [Int.toNat_natCast]; first | exact g0 | exact g1)) | (apply Ab.Nm.mk; first | exact nrm_) | (apply Xg.s; constructor) | (apply Ab.asm; assumption) | rfl | infer_instance | decide))
    all_goals ((first | apply RetQ.ret | apply RetQ.normal); (case he => exact evr_); (case hg => rfl))
    all_goals first | rfl | exact Keeps.self trivial
/-! ### which edges may be together -/
instance {l : List E} : Decidable (Apart l) := by unfold Apart; infer_instance
instance {l : List E} : Decidable (TP.Good l) := by unfold TP.Good; infer_instance
def ckE (l : List E) : Int := if TP.Good l then 0 else 1
theorem ck_y {l : List E} (h : TP.Good l) : ckE l = 0 := if_pos h
theorem ck_n {l : List E} (h : ¬ TP.Good l) : ckE l = 1 := if_neg h
/-- What is told of pairs. -/
def Prs (l : List E) (f : Nat → Bool) : Prop := ∀ p, f p = true ↔ ∃ e ∈ l, p = e.a.toNat * 65 + e.b.toNat
theorem Prs.nil : Prs [] fun _ => false := fun p => by simp
theorem Prs.add {l : List E} {f : Nat → Bool} {e : E} (h : Prs l f) : Prs (l ++ [e]) fun j => decide (j = e.a.toNat * 65 + e.b.toNat * 1) || f j := fun p => by
  rw [Bool.or_eq_true, decide_eq_true_iff, h p, Nat.mul_one]
  simp only [List.mem_append, List.mem_singleton]
  constructor
  · rintro (h | ⟨g, hg, h⟩)
    · exact ⟨e, .inr rfl, h⟩
    · exact ⟨g, .inl hg, h⟩
  · rintro ⟨g, hg | rfl, h⟩
    · exact .inr ⟨g, hg, h⟩
    · exact .inl h
theorem Prs.met {l : List E} {f : Nat → Bool} {e : E} (h : Prs l f) (hl : ∀ g ∈ l, TP.Node g.a ∧ TP.Node g.b) (he : TP.Node e.a ∧ TP.Node e.b) : f (e.a.toNat * 65 + e.b.toNat) = true ↔ ∃ g ∈ l, g.a = e.a ∧ g.b = e.b := by
  rw [h]
  constructor
  · rintro ⟨g, hg, hp⟩
    have h1 := hl g hg
    have a1 := h1.1.1; have a2 := h1.2.1; have a3 := h1.2.2; have b1 := he.1.1; have b2 := he.2.1; have b3 := he.2.2
    exact ⟨g, hg, by omega, by omega⟩
  · rintro ⟨g, hg, h1, h2⟩
    exact ⟨g, hg, by rw [h1, h2]⟩
theorem apart_snoc {l : List E} {e : E} : Apart (l ++ [e]) ↔ Apart l ∧ ¬ ∃ g ∈ l, g.a = e.a ∧ g.b = e.b := by
  unfold Apart
  rw [List.pairwise_append]
  constructor
  · rintro ⟨h1, _, h2⟩
    exact ⟨h1, fun ⟨g, hg, h⟩ => h2 g hg e (by simp) h⟩
  · rintro ⟨h1, h2⟩
    exact ⟨h1, by simp, fun g hg f hf h => h2 ⟨g, hg, by rw [List.mem_singleton.1 hf] at h; exact h⟩⟩










end Go.Proofs.Ytdbnpghckgmaoaa

/- trees: join, New (written by gen_tj.py from c06). -/
namespace Go.Proofs.Ytdbnpghckgmaoaa
set_option linter.unusedVariables false
set_option linter.unusedSimpArgs false
set_option linter.unusedSectionVars false
open Go.RowKit Ab JP
attribute [local irreducible] AOps AOpsD AOp AWp put nargs AHeap.set At Free ACall thenQ blockQ roundQ RetQ Src
def start (n : Nat) : List Int := (List.range n).map Int.ofNat
theorem start_succ (n : Nat) : start (n + 1) = start n ++ [(n : Int)] := by simp [start, List.range_succ]
theorem start_length (n : Nat) : (start n).length = n := by simp [start]
theorem ints_pl' (l : List Int) : (ints l).all pl1 = true := ints_pl l
def fixTo (w : List Int) (i : Nat) : Nat := ((List.range i).filter fun j => 1 ≤ j ∧ g w (j : Nat) = (j : Int)).length
theorem fixTo_succ (w : List Int) (i : Nat) : fixTo w (i + 1) = fixTo w i + if 1 ≤ i ∧ g w (i : Nat) = (i : Int) then 1 else 0 := by
  unfold fixTo; rw [List.range_succ, List.filter_append]; simp only [List.length_append]; congr 1
  by_cases h : 1 ≤ i ∧ g w (i : Nat) = (i : Int) <;> simp [h]
theorem fixTo_le (w : List Int) (i : Nat) : fixTo w i ≤ i := by
  unfold fixTo; exact Nat.le_trans (List.length_filter_le _ _) (by simp)
theorem fixTo_one (w : List Int) : fixTo w 1 = 0 := by simp [fixTo, List.range_succ]

def ones (n : Nat) : List Int := List.replicate n 1
theorem ones_succ (n : Nat) : ones (n + 1) = ones n ++ [1] := by simp [ones, List.replicate_succ']

theorem jCells_mp {π : Nat → Nat} {u z l u1 z1 l1 n c1 c2 c3 : Nat} {k : Int} (h1 : π u = u1) (h2 : π z = z1) (h3 : π l = l1) : (ABlk.cells true 1 (jCells u z l n c1 c2 c3 k)).mp π = .cells true 1 (jCells u1 z1 l1 n c1 c2 c3 k) := by
  simp only [ABlk.mp, jCells, List.map_cons, List.map_nil, mp1, mpA, h1, h2, h3]

theorem new_keeps {s s1 : AHeap} {j u z l N u1 z1 l1 n c1 c2 c3 : Nat} {U S L : List Int} {k : Int} {v : Value} (hU : U.length = n) (fj : s j = none) (fu : s u = none) (fz : s z = none) (fl : s l = none) (fj1 : s N = none) (fu1 : s u1 = none) (fz1 : s z1 = none) (fl1 : s l1 = none)
    (hne : j ≠ u ∧ j ≠ z ∧ j ≠ l ∧ u ≠ z ∧ u ≠ l ∧ z ≠ l) (hne1 : N ≠ u1 ∧ N ≠ z1 ∧ N ≠ l1 ∧ u1 ≠ z1 ∧ u1 ≠ l1 ∧ z1 ≠ l1) (hf : Fr s1 s []) (hj : At s1 N (.cells true 1 (jCells u1 z1 l1 n c1 c2 c3 k))) (hu : At s1 u1 (.cells true 1 (ints U))) (hz : At s1 z1 (.cells true 1 (ints S))) (hl : At s1 l1 (.cells true 1 (ints L)))
    (hv : nmR (fun i => i = j) v) :
    ∃ π, π j = N ∧ KeepsR π s s1 (jset s j u z l c1 c2 c3 U S L k) v := by
  obtain ⟨n1, n2, n3, n4, n5, n6⟩ := hne
  obtain ⟨m1, m2, m3, m4, m5, m6⟩ := hne1
  refine ⟨renL (dn [(u, u1, .cells true 1 (ints U)), (z, z1, .cells true 1 (ints S)), (l, l1, .cells true 1 (ints L)), (j, N, .cells true 1 (jCells u z l U.length c1 c2 c3 k))]), ?_, ?_⟩
  · rw [renL_miss n1, renL_miss n2, renL_miss n3, renL_hit]
  · have hsl : ∀ x, x = u ∨ x = z ∨ x = l ∨ x = j → (newH s [(u, u1, .cells true 1 (ints U)), (z, z1, .cells true 1 (ints S)), (l, l1, .cells true 1 (ints L)), (j, N, .cells true 1 (jCells u z l U.length c1 c2 c3 k))] x).isSome = true := fun x hx => newH_some (.inr (by simpa using hx))
    refine KeepsR.new [(u, u1, .cells true 1 (ints U)), (z, z1, .cells true 1 (ints S)), (l, l1, .cells true 1 (ints L)), (j, N, .cells true 1 (jCells u z l U.length c1 c2 c3 k))]
      (by simp; omega) (by simp; omega) (fun i _ b hb => hf i (by simp) b hb) ⟨⟨?_, nm_scal (ints_pl' _), .inr ⟨fu, fu1⟩⟩, ⟨?_, nm_scal (ints_pl' _), .inr ⟨fz, fz1⟩⟩, ⟨?_, nm_scal (ints_pl' _), .inr ⟨fl, fl1⟩⟩, ⟨?_, ?_, .inr ⟨fj, fj1⟩⟩, trivial⟩ ?_
    · rw [mp_pl (ints_pl' _)]; exact hu
    · rw [mp_pl (ints_pl' _)]; exact hz
    · rw [mp_pl (ints_pl' _)]; exact hl
    · rw [jCells_mp (u1 := u1) (z1 := z1) (l1 := l1) renL_hit (by rw [renL_miss (Ne.symm n4), renL_hit]) (by rw [renL_miss (Ne.symm n5), renL_miss (Ne.symm n6), renL_hit]), hU]; exact hj
    · intro x hx
      simp only [jCells, List.mem_cons, List.not_mem_nil, or_false] at hx
      rcases hx with rfl | rfl | rfl | rfl
      · exact hsl _ (by simp)
      · exact hsl _ (by simp)
      · exact hsl _ (by simp)
      · trivial
    · exact nmR.imp (fun i e => hsl i (by simp [e])) hv

set_option maxHeartbeats 4000000 in
set_option maxRecDepth 8000 in
theorem new_spec {s : AHeap} {n : Nat} (hn : n ≤ 4096) {j u z l : Nat} (fj : s j = none) (fu : s u = none) (fz : s z = none) (fl : s l = none) (hne : j ≠ u ∧ j ≠ z ∧ j ≠ l ∧ u ≠ z ∧ u ≠ l ∧ z ≠ l) :
    ACall Try.prog 57 [.int .i64 n] s (.tuple #[.pointer (some ⟨j, 0, none⟩), .int .i64 0]) (jset s j u z l (n + 1) (n + 1) (n + 1) (start (n + 1)) (ones (n + 1)) (start (n + 1)) n) := by
  refine ACall.make Try.func57 rfl (by kernel_rfl) (by decide) rfl (fun N hN => ?_)
  have hT : Top N s := hN
  have hf : Free s N := hT.free (Nat.le_refl _)
  have hbd : abuild Try.prog 88 [(3, .int .i64 (n : Int))] = some (.agg #[.slice none 0 0, .slice none 0 0, .slice none 0 0, .int .i64 n]) := by kernel_rfl
  (repeat' (first | (apply Ab.K.ev; exact ev_) | (apply Ab.K.aops; first | (apply Xg.s; constructor) | apply Ab.S.guardG) | (apply Ab.K.aop; first | (first | (apply Ab.O.build; (case hp => exact evp_); (case hv => exact hbd)) | (apply Ab.O.box N; (case hx => exact ev_); (case hid => exact free_); (case hn => rfl))) | (apply Og.s; constructor)) | (apply Ab.K.gk; first | (apply Xg.s; constructor) | (apply Ab.gY; case hw => assumption) | (apply Ab.gNT; case hw => assumption) | (apply Ab.gNF; case hw => assumption) | ((first | apply Ab.gD | apply Ab.gDN); all_goals (intro _ _; (first | contradiction | (exfalso; omega) | skip)))) | (apply Ab.K.awp; first | (apply Xg.s; constructor)) | (apply Ab.K.at_; exact at_) | (apply Ab.K.acall; first | assumption | fail) | (apply Ab.Rg.mk; omega) | (apply Ab.Lt.mk; first | decide | (simp; done) | (simp; omega) | fail) | (apply Ab.Get.mk; first | rfl | fail) | (apply Ab.Nm.mk; first | exact nrm_) | (apply Xg.s; constructor) | (apply Ab.asm; assumption) | rfl | infer_instance | decide))
  refine AWp.loop (fun k tm s1 => ∃ i M : Nat, Ev tm (.tmp 4) (.pointer (some ⟨N, 0, none⟩)) ∧ Ev tm (.tmp 17) (.int .i64 i) ∧ Ev tm (.tmp 16) (.int .i64 ((n : Int) + 1)) ∧ Top M s1 ∧ N < M ∧ Fr s1 s [] ∧ i ≤ n + 1 ∧ k = n + 1 - i ∧
    ((i = 0 ∧ At s1 N (.cells true 1 [.slice none 0 0, .slice none 0 0, .slice none 0 0, .int .i64 n])) ∨
     ∃ u1 z1 l1 : Nat, 0 < i ∧ (N < u1 ∧ N < z1 ∧ N < l1 ∧ u1 ≠ z1 ∧ u1 ≠ l1 ∧ z1 ≠ l1) ∧ At s1 N (.cells true 1 [.slice (some ⟨u1, 0, none⟩) i i, .slice (some ⟨z1, 0, none⟩) i i, .slice (some ⟨l1, 0, none⟩) i i, .int .i64 n]) ∧
       At s1 u1 (.cells true 1 (ints (start i))) ∧ At s1 z1 (.cells true 1 (ints (ones i))) ∧ At s1 l1 (.cells true 1 (ints (start i))))) (n + 1) ?_ ?_
  · refine ⟨0, N + 1, ?_, ?_, ?_, hT.new, by omega, ?_, by omega, by omega, .inl ⟨rfl, At.hit⟩⟩
    · exact ev_
    · exact ev_
    · exact ev_
    · exact fr_
  rintro k tm s1 ⟨i, M, h4, h17, h16, hM, hNM, hfr, hin, hk, hcase⟩
  by_cases hlt : i < n + 1
  · rcases hcase with ⟨h0, hj⟩ | ⟨u1, z1, l1, hi0, ⟨e1, e2, e3, e4, e5, e6⟩, hj, hu, hz, hl⟩
    · subst h0




      (repeat' (first | (apply Ab.K.ev; first | exact Ev.hit | (apply Ev.missB; case h => rfl) | exact Ev.const | exact Ev.func | apply Ev.non | assumption | (apply Ev.arg; rfl)) | (apply Ab.K.aops; first | (apply Xg.s; constructor) | apply Ab.S.guardG) | (apply Ab.K.aop; first | (apply Og.s; constructor)) | (apply Ab.K.gk; first | (apply Xg.s; constructor) | (apply Ab.gY; case hw => assumption) | (apply Ab.gNT; case hw => assumption) | (apply Ab.gNF; case hw => assumption) | ((first | apply Ab.gD | apply Ab.gDN); all_goals (intro _ _; (first | contradiction | (exfalso; omega) | skip)))) | (apply Ab.K.aopsD; first | (apply Ab.D.q0t; (case hw => rfl); (case hot => rfl)) | (apply Ab.D.w1t; (case hw => rfl); (case hot => rfl)) | (apply Ab.D.q0; (case hw => rfl); intro _ _) | (apply Ab.D.w1n; (case hw => rfl); intro _ _) | (apply Ab.D.w2n; (case hw => rfl); intro _ _) | (apply Xg.s; constructor) | fail | apply Ab.D.guardG) | exact ⟨rfl, rfl⟩ | (apply Ab.K.awp; first | (apply AWp.draw (id := 7) [[], [], [], [], [3], [3, 4], [3, 4, 5], [], [7], [3, 4, 5, 6, 7, 8], [], [10], [10, 11], [10, 11, 12], [], [3, 4, 5, 6, 7, 8, 9, 10, 11, 12, 13, 14], [], [16], [16, 17], [16, 17, 18], [], [20], [3, 4, 5, 6, 7, 8, 9, 10, 11, 12, 13, 14, 15, 16, 17, 18, 19, 20, 21], [0, 3, 4, 5, 6, 7, 8, 9, 10, 11, 12, 13, 14, 15, 16, 17, 18, 19, 20, 21, 22], [0, 3, 4, 5, 6, 7, 8, 9, 10, 11, 12, 13, 14, 15, 16, 17, 18, 19, 20, 21, 22, 23], [0, 3, 4, 5, 6, 7, 8, 9, 10, 11, 12, 13, 14, 15, 16, 17, 18, 19, 20, 21, 22, 23, 24], [0, 1, 3, 4, 5, 6, 7, 8, 9, 10, 11, 12, 13, 14, 15, 16, 17, 18, 19, 20, 21, 22, 23, 24, 25], [0, 1, 3, 4, 5, 6, 7, 8, 9, 10, 11, 12, 13, 14, 15, 16, 17, 18, 19, 20, 21, 22, 23, 24, 25, 26], [0, 1, 3, 4, 5, 6, 7, 8, 9, 10, 11, 12, 13, 14, 15, 16, 17, 18, 19, 20, 21, 22, 23, 24, 25, 26, 27], [0, 1, 2, 3, 4, 5, 6, 7, 8, 9, 10, 11, 12, 13, 14, 15, 16, 17, 18, 19, 20, 21, 22, 23, 24, 25, 26, 27, 28], [0, 1, 2, 3, 4, 5, 6, 7, 8, 9, 10, 11, 12, 13, 14, 15, 16, 17, 18, 19, 20, 21, 22, 23, 24, 25, 26, 27, 28, 29], [0, 1, 2, 3, 4, 5, 6, 7, 8, 9, 10, 11, 12, 13, 14, 15, 16, 17, 18, 19, 20, 21, 22, 23, 24, 25, 26, 27, 28, 29, 30]] [(8, [M]), (9, [M + 1]), (14, [M + 2]), (15, [M + 3]), (21, [M + 4]), (22, [M + 5]), (25, [N]), (28, [N]), (31, [N])] (by kernel_rfl) (by kernel_rfl) (by simp [apartW, unordB, cC] <;> omega)) | (apply Xg.s; constructor)) | (apply Ab.K.at_; exact at_) | (apply Ab.K.acall; first | assumption | fail) | (apply Ab.Rg.mk; omega) | (apply Ab.Lt.mk; first | decide | (simp; done) | (simp; omega) | (simp; done)) | (apply Ab.Get.mk; first | rfl | fail) | (apply Ab.Nm.mk; first | exact nrm_) | (apply Xg.s; constructor) | (apply Ab.asm; assumption) | rfl | infer_instance | decide))
      (apply Ab.O.build1 (M); (case hx => exact ev_); (case hv => exact ⟨rfl, rfl⟩); (case hz => exact ⟨rfl, rfl⟩); (case hid => exact free_))
      (repeat' (first | (apply Ab.K.ev; first | exact Ev.hit | (apply Ev.missB; case h => rfl) | exact Ev.const | exact Ev.func | apply Ev.non | assumption | (apply Ev.arg; rfl)) | (apply Ab.K.aops; first | (apply Xg.s; constructor) | apply Ab.S.guardG) | (apply Ab.K.aop; first | (apply Og.s; constructor)) | (apply Ab.K.gk; first | (apply Xg.s; constructor) | (apply Ab.gY; case hw => assumption) | (apply Ab.gNT; case hw => assumption) | (apply Ab.gNF; case hw => assumption) | ((first | apply Ab.gD | apply Ab.gDN); all_goals (intro _ _; (first | contradiction | (exfalso; omega) | skip)))) | (apply Ab.K.aopsD; first | (apply Ab.D.q0t; (case hw => rfl); (case hot => rfl)) | (apply Ab.D.w1t; (case hw => rfl); (case hot => rfl)) | (apply Ab.D.q0; (case hw => rfl); intro _ _) | (apply Ab.D.w1n; (case hw => rfl); intro _ _) | (apply Ab.D.w2n; (case hw => rfl); intro _ _) | (apply Xg.s; constructor) | fail | apply Ab.D.guardG) | exact ⟨rfl, rfl⟩ | (apply Ab.K.awp; first | (apply AWp.draw (id := 7) [[], [], [], [], [3], [3, 4], [3, 4, 5], [], [7], [3, 4, 5, 6, 7, 8], [], [10], [10, 11], [10, 11, 12], [], [3, 4, 5, 6, 7, 8, 9, 10, 11, 12, 13, 14], [], [16], [16, 17], [16, 17, 18], [], [20], [3, 4, 5, 6, 7, 8, 9, 10, 11, 12, 13, 14, 15, 16, 17, 18, 19, 20, 21], [0, 3, 4, 5, 6, 7, 8, 9, 10, 11, 12, 13, 14, 15, 16, 17, 18, 19, 20, 21, 22], [0, 3, 4, 5, 6, 7, 8, 9, 10, 11, 12, 13, 14, 15, 16, 17, 18, 19, 20, 21, 22, 23], [0, 3, 4, 5, 6, 7, 8, 9, 10, 11, 12, 13, 14, 15, 16, 17, 18, 19, 20, 21, 22, 23, 24], [0, 1, 3, 4, 5, 6, 7, 8, 9, 10, 11, 12, 13, 14, 15, 16, 17, 18, 19, 20, 21, 22, 23, 24, 25], [0, 1, 3, 4, 5, 6, 7, 8, 9, 10, 11, 12, 13, 14, 15, 16, 17, 18, 19, 20, 21, 22, 23, 24, 25, 26], [0, 1, 3, 4, 5, 6, 7, 8, 9, 10, 11, 12, 13, 14, 15, 16, 17, 18, 19, 20, 21, 22, 23, 24, 25, 26, 27], [0, 1, 2, 3, 4, 5, 6, 7, 8, 9, 10, 11, 12, 13, 14, 15, 16, 17, 18, 19, 20, 21, 22, 23, 24, 25, 26, 27, 28], [0, 1, 2, 3, 4, 5, 6, 7, 8, 9, 10, 11, 12, 13, 14, 15, 16, 17, 18, 19, 20, 21, 22, 23, 24, 25, 26, 27, 28, 29], [0, 1, 2, 3, 4, 5, 6, 7, 8, 9, 10, 11, 12, 13, 14, 15, 16, 17, 18, 19, 20, 21, 22, 23, 24, 25, 26, 27, 28, 29, 30]] [(8, [M]), (9, [M + 1]), (14, [M + 2]), (15, [M + 3]), (21, [M + 4]), (22, [M + 5]), (25, [N]), (28, [N]), (31, [N])] (by kernel_rfl) (by kernel_rfl) (by simp [apartW, unordB, cC] <;> omega)) | (apply Xg.s; constructor)) | (apply Ab.K.at_; exact at_) | (apply Ab.K.acall; first | assumption | fail) | (apply Ab.Rg.mk; omega) | (apply Ab.Lt.mk; first | decide | (simp; done) | (simp; omega) | (simp; done)) | (apply Ab.Get.mk; first | rfl | fail) | (apply Ab.Nm.mk; first | exact nrm_) | (apply Xg.s; constructor) | (apply Ab.asm; assumption) | rfl | infer_instance | decide))
      (apply Ab.O.appendNil (M + 1); (case hx => exact ev_); (case hy => exact ev_); (case hs => first | exact Src.sl (by exact at_) (by decide) (by decide) rfl | exact srcAll (by exact at_) (by simp [ints, start, ones])); (case hk => rfl); (case hm => decide); (case hl => first | rfl | simp [ints, start, ones]); (case hz => decide); (case hb => omega); (case hid => exact free_))
      (repeat' (first | (apply Ab.K.ev; first | exact Ev.hit | (apply Ev.missB; case h => rfl) | exact Ev.const | exact Ev.func | apply Ev.non | assumption | (apply Ev.arg; rfl)) | (apply Ab.K.aops; first | (apply Xg.s; constructor) | apply Ab.S.guardG) | (apply Ab.K.aop; first | (apply Og.s; constructor)) | (apply Ab.K.gk; first | (apply Xg.s; constructor) | (apply Ab.gY; case hw => assumption) | (apply Ab.gNT; case hw => assumption) | (apply Ab.gNF; case hw => assumption) | ((first | apply Ab.gD | apply Ab.gDN); all_goals (intro _ _; (first | contradiction | (exfalso; omega) | skip)))) | (apply Ab.K.aopsD; first | (apply Ab.D.q0t; (case hw => rfl); (case hot => rfl)) | (apply Ab.D.w1t; (case hw => rfl); (case hot => rfl)) | (apply Ab.D.q0; (case hw => rfl); intro _ _) | (apply Ab.D.w1n; (case hw => rfl); intro _ _) | (apply Ab.D.w2n; (case hw => rfl); intro _ _) | (apply Xg.s; constructor) | fail | apply Ab.D.guardG) | exact ⟨rfl, rfl⟩ | (apply Ab.K.awp; first | (apply AWp.draw (id := 7) [[], [], [], [], [3], [3, 4], [3, 4, 5], [], [7], [3, 4, 5, 6, 7, 8], [], [10], [10, 11], [10, 11, 12], [], [3, 4, 5, 6, 7, 8, 9, 10, 11, 12, 13, 14], [], [16], [16, 17], [16, 17, 18], [], [20], [3, 4, 5, 6, 7, 8, 9, 10, 11, 12, 13, 14, 15, 16, 17, 18, 19, 20, 21], [0, 3, 4, 5, 6, 7, 8, 9, 10, 11, 12, 13, 14, 15, 16, 17, 18, 19, 20, 21, 22], [0, 3, 4, 5, 6, 7, 8, 9, 10, 11, 12, 13, 14, 15, 16, 17, 18, 19, 20, 21, 22, 23], [0, 3, 4, 5, 6, 7, 8, 9, 10, 11, 12, 13, 14, 15, 16, 17, 18, 19, 20, 21, 22, 23, 24], [0, 1, 3, 4, 5, 6, 7, 8, 9, 10, 11, 12, 13, 14, 15, 16, 17, 18, 19, 20, 21, 22, 23, 24, 25], [0, 1, 3, 4, 5, 6, 7, 8, 9, 10, 11, 12, 13, 14, 15, 16, 17, 18, 19, 20, 21, 22, 23, 24, 25, 26], [0, 1, 3, 4, 5, 6, 7, 8, 9, 10, 11, 12, 13, 14, 15, 16, 17, 18, 19, 20, 21, 22, 23, 24, 25, 26, 27], [0, 1, 2, 3, 4, 5, 6, 7, 8, 9, 10, 11, 12, 13, 14, 15, 16, 17, 18, 19, 20, 21, 22, 23, 24, 25, 26, 27, 28], [0, 1, 2, 3, 4, 5, 6, 7, 8, 9, 10, 11, 12, 13, 14, 15, 16, 17, 18, 19, 20, 21, 22, 23, 24, 25, 26, 27, 28, 29], [0, 1, 2, 3, 4, 5, 6, 7, 8, 9, 10, 11, 12, 13, 14, 15, 16, 17, 18, 19, 20, 21, 22, 23, 24, 25, 26, 27, 28, 29, 30]] [(8, [M]), (9, [M + 1]), (14, [M + 2]), (15, [M + 3]), (21, [M + 4]), (22, [M + 5]), (25, [N]), (28, [N]), (31, [N])] (by kernel_rfl) (by kernel_rfl) (by simp [apartW, unordB, cC] <;> omega)) | (apply Xg.s; constructor)) | (apply Ab.K.at_; exact at_) | (apply Ab.K.acall; first | assumption | fail) | (apply Ab.Rg.mk; omega) | (apply Ab.Lt.mk; first | decide | (simp; done) | (simp; omega) | (simp; done)) | (apply Ab.Get.mk; first | rfl | fail) | (apply Ab.Nm.mk; first | exact nrm_) | (apply Xg.s; constructor) | (apply Ab.asm; assumption) | rfl | infer_instance | decide))
      (apply Ab.O.build1 (M + 2); (case hx => exact ev_); (case hv => exact ⟨rfl, rfl⟩); (case hz => exact ⟨rfl, rfl⟩); (case hid => exact free_))
      (repeat' (first | (apply Ab.K.ev; first | exact Ev.hit | (apply Ev.missB; case h => rfl) | exact Ev.const | exact Ev.func | apply Ev.non | assumption | (apply Ev.arg; rfl)) | (apply Ab.K.aops; first | (apply Xg.s; constructor) | apply Ab.S.guardG) | (apply Ab.K.aop; first | (apply Og.s; constructor)) | (apply Ab.K.gk; first | (apply Xg.s; constructor) | (apply Ab.gY; case hw => assumption) | (apply Ab.gNT; case hw => assumption) | (apply Ab.gNF; case hw => assumption) | ((first | apply Ab.gD | apply Ab.gDN); all_goals (intro _ _; (first | contradiction | (exfalso; omega) | skip)))) | (apply Ab.K.aopsD; first | (apply Ab.D.q0t; (case hw => rfl); (case hot => rfl)) | (apply Ab.D.w1t; (case hw => rfl); (case hot => rfl)) | (apply Ab.D.q0; (case hw => rfl); intro _ _) | (apply Ab.D.w1n; (case hw => rfl); intro _ _) | (apply Ab.D.w2n; (case hw => rfl); intro _ _) | (apply Xg.s; constructor) | fail | apply Ab.D.guardG) | exact ⟨rfl, rfl⟩ | (apply Ab.K.awp; first | (apply AWp.draw (id := 7) [[], [], [], [], [3], [3, 4], [3, 4, 5], [], [7], [3, 4, 5, 6, 7, 8], [], [10], [10, 11], [10, 11, 12], [], [3, 4, 5, 6, 7, 8, 9, 10, 11, 12, 13, 14], [], [16], [16, 17], [16, 17, 18], [], [20], [3, 4, 5, 6, 7, 8, 9, 10, 11, 12, 13, 14, 15, 16, 17, 18, 19, 20, 21], [0, 3, 4, 5, 6, 7, 8, 9, 10, 11, 12, 13, 14, 15, 16, 17, 18, 19, 20, 21, 22], [0, 3, 4, 5, 6, 7, 8, 9, 10, 11, 12, 13, 14, 15, 16, 17, 18, 19, 20, 21, 22, 23], [0, 3, 4, 5, 6, 7, 8, 9, 10, 11, 12, 13, 14, 15, 16, 17, 18, 19, 20, 21, 22, 23, 24], [0, 1, 3, 4, 5, 6, 7, 8, 9, 10, 11, 12, 13, 14, 15, 16, 17, 18, 19, 20, 21, 22, 23, 24, 25], [0, 1, 3, 4, 5, 6, 7, 8, 9, 10, 11, 12, 13, 14, 15, 16, 17, 18, 19, 20, 21, 22, 23, 24, 25, 26], [0, 1, 3, 4, 5, 6, 7, 8, 9, 10, 11, 12, 13, 14, 15, 16, 17, 18, 19, 20, 21, 22, 23, 24, 25, 26, 27], [0, 1, 2, 3, 4, 5, 6, 7, 8, 9, 10, 11, 12, 13, 14, 15, 16, 17, 18, 19, 20, 21, 22, 23, 24, 25, 26, 27, 28], [0, 1, 2, 3, 4, 5, 6, 7, 8, 9, 10, 11, 12, 13, 14, 15, 16, 17, 18, 19, 20, 21, 22, 23, 24, 25, 26, 27, 28, 29], [0, 1, 2, 3, 4, 5, 6, 7, 8, 9, 10, 11, 12, 13, 14, 15, 16, 17, 18, 19, 20, 21, 22, 23, 24, 25, 26, 27, 28, 29, 30]] [(8, [M]), (9, [M + 1]), (14, [M + 2]), (15, [M + 3]), (21, [M + 4]), (22, [M + 5]), (25, [N]), (28, [N]), (31, [N])] (by kernel_rfl) (by kernel_rfl) (by simp [apartW, unordB, cC] <;> omega)) | (apply Xg.s; constructor)) | (apply Ab.K.at_; exact at_) | (apply Ab.K.acall; first | assumption | fail) | (apply Ab.Rg.mk; omega) | (apply Ab.Lt.mk; first | decide | (simp; done) | (simp; omega) | (simp; done)) | (apply Ab.Get.mk; first | rfl | fail) | (apply Ab.Nm.mk; first | exact nrm_) | (apply Xg.s; constructor) | (apply Ab.asm; assumption) | rfl | infer_instance | decide))
      (apply Ab.O.appendNil (M + 3); (case hx => exact ev_); (case hy => exact ev_); (case hs => first | exact Src.sl (by exact at_) (by decide) (by decide) rfl | exact srcAll (by exact at_) (by simp [ints, start, ones])); (case hk => rfl); (case hm => decide); (case hl => first | rfl | simp [ints, start, ones]); (case hz => decide); (case hb => omega); (case hid => exact free_))
      (repeat' (first | (apply Ab.K.ev; first | exact Ev.hit | (apply Ev.missB; case h => rfl) | exact Ev.const | exact Ev.func | apply Ev.non | assumption | (apply Ev.arg; rfl)) | (apply Ab.K.aops; first | (apply Xg.s; constructor) | apply Ab.S.guardG) | (apply Ab.K.aop; first | (apply Og.s; constructor)) | (apply Ab.K.gk; first | (apply Xg.s; constructor) | (apply Ab.gY; case hw => assumption) | (apply Ab.gNT; case hw => assumption) | (apply Ab.gNF; case hw => assumption) | ((first | apply Ab.gD | apply Ab.gDN); all_goals (intro _ _; (first | contradiction | (exfalso; omega) | skip)))) | (apply Ab.K.aopsD; first | (apply Ab.D.q0t; (case hw => rfl); (case hot => rfl)) | (apply Ab.D.w1t; (case hw => rfl); (case hot => rfl)) | (apply Ab.D.q0; (case hw => rfl); intro _ _) | (apply Ab.D.w1n; (case hw => rfl); intro _ _) | (apply Ab.D.w2n; (case hw => rfl); intro _ _) | (apply Xg.s; constructor) | fail | apply Ab.D.guardG) | exact ⟨rfl, rfl⟩ | (apply Ab.K.awp; first | (apply AWp.draw (id := 7) [[], [], [], [], [3], [3, 4], [3, 4, 5], [], [7], [3, 4, 5, 6, 7, 8], [], [10], [10, 11], [10, 11, 12], [], [3, 4, 5, 6, 7, 8, 9, 10, 11, 12, 13, 14], [], [16], [16, 17], [16, 17, 18], [], [20], [3, 4, 5, 6, 7, 8, 9, 10, 11, 12, 13, 14, 15, 16, 17, 18, 19, 20, 21], [0, 3, 4, 5, 6, 7, 8, 9, 10, 11, 12, 13, 14, 15, 16, 17, 18, 19, 20, 21, 22], [0, 3, 4, 5, 6, 7, 8, 9, 10, 11, 12, 13, 14, 15, 16, 17, 18, 19, 20, 21, 22, 23], [0, 3, 4, 5, 6, 7, 8, 9, 10, 11, 12, 13, 14, 15, 16, 17, 18, 19, 20, 21, 22, 23, 24], [0, 1, 3, 4, 5, 6, 7, 8, 9, 10, 11, 12, 13, 14, 15, 16, 17, 18, 19, 20, 21, 22, 23, 24, 25], [0, 1, 3, 4, 5, 6, 7, 8, 9, 10, 11, 12, 13, 14, 15, 16, 17, 18, 19, 20, 21, 22, 23, 24, 25, 26], [0, 1, 3, 4, 5, 6, 7, 8, 9, 10, 11, 12, 13, 14, 15, 16, 17, 18, 19, 20, 21, 22, 23, 24, 25, 26, 27], [0, 1, 2, 3, 4, 5, 6, 7, 8, 9, 10, 11, 12, 13, 14, 15, 16, 17, 18, 19, 20, 21, 22, 23, 24, 25, 26, 27, 28], [0, 1, 2, 3, 4, 5, 6, 7, 8, 9, 10, 11, 12, 13, 14, 15, 16, 17, 18, 19, 20, 21, 22, 23, 24, 25, 26, 27, 28, 29], [0, 1, 2, 3, 4, 5, 6, 7, 8, 9, 10, 11, 12, 13, 14, 15, 16, 17, 18, 19, 20, 21, 22, 23, 24, 25, 26, 27, 28, 29, 30]] [(8, [M]), (9, [M + 1]), (14, [M + 2]), (15, [M + 3]), (21, [M + 4]), (22, [M + 5]), (25, [N]), (28, [N]), (31, [N])] (by kernel_rfl) (by kernel_rfl) (by simp [apartW, unordB, cC] <;> omega)) | (apply Xg.s; constructor)) | (apply Ab.K.at_; exact at_) | (apply Ab.K.acall; first | assumption | fail) | (apply Ab.Rg.mk; omega) | (apply Ab.Lt.mk; first | decide | (simp; done) | (simp; omega) | (simp; done)) | (apply Ab.Get.mk; first | rfl | fail) | (apply Ab.Nm.mk; first | exact nrm_) | (apply Xg.s; constructor) | (apply Ab.asm; assumption) | rfl | infer_instance | decide))
      (apply Ab.O.build1 (M + 4); (case hx => exact ev_); (case hv => exact ⟨rfl, rfl⟩); (case hz => exact ⟨rfl, rfl⟩); (case hid => exact free_))
      (repeat' (first | (apply Ab.K.ev; first | exact Ev.hit | (apply Ev.missB; case h => rfl) | exact Ev.const | exact Ev.func | apply Ev.non | assumption | (apply Ev.arg; rfl)) | (apply Ab.K.aops; first | (apply Xg.s; constructor) | apply Ab.S.guardG) | (apply Ab.K.aop; first | (apply Og.s; constructor)) | (apply Ab.K.gk; first | (apply Xg.s; constructor) | (apply Ab.gY; case hw => assumption) | (apply Ab.gNT; case hw => assumption) | (apply Ab.gNF; case hw => assumption) | ((first | apply Ab.gD | apply Ab.gDN); all_goals (intro _ _; (first | contradiction | (exfalso; omega) | skip)))) | (apply Ab.K.aopsD; first | (apply Ab.D.q0t; (case hw => rfl); (case hot => rfl)) | (apply Ab.D.w1t; (case hw => rfl); (case hot => rfl)) | (apply Ab.D.q0; (case hw => rfl); intro _ _) | (apply Ab.D.w1n; (case hw => rfl); intro _ _) | (apply Ab.D.w2n; (case hw => rfl); intro _ _) | (apply Xg.s; constructor) | fail | apply Ab.D.guardG) | exact ⟨rfl, rfl⟩ | (apply Ab.K.awp; first | (apply AWp.draw (id := 7) [[], [], [], [], [3], [3, 4], [3, 4, 5], [], [7], [3, 4, 5, 6, 7, 8], [], [10], [10, 11], [10, 11, 12], [], [3, 4, 5, 6, 7, 8, 9, 10, 11, 12, 13, 14], [], [16], [16, 17], [16, 17, 18], [], [20], [3, 4, 5, 6, 7, 8, 9, 10, 11, 12, 13, 14, 15, 16, 17, 18, 19, 20, 21], [0, 3, 4, 5, 6, 7, 8, 9, 10, 11, 12, 13, 14, 15, 16, 17, 18, 19, 20, 21, 22], [0, 3, 4, 5, 6, 7, 8, 9, 10, 11, 12, 13, 14, 15, 16, 17, 18, 19, 20, 21, 22, 23], [0, 3, 4, 5, 6, 7, 8, 9, 10, 11, 12, 13, 14, 15, 16, 17, 18, 19, 20, 21, 22, 23, 24], [0, 1, 3, 4, 5, 6, 7, 8, 9, 10, 11, 12, 13, 14, 15, 16, 17, 18, 19, 20, 21, 22, 23, 24, 25], [0, 1, 3, 4, 5, 6, 7, 8, 9, 10, 11, 12, 13, 14, 15, 16, 17, 18, 19, 20, 21, 22, 23, 24, 25, 26], [0, 1, 3, 4, 5, 6, 7, 8, 9, 10, 11, 12, 13, 14, 15, 16, 17, 18, 19, 20, 21, 22, 23, 24, 25, 26, 27], [0, 1, 2, 3, 4, 5, 6, 7, 8, 9, 10, 11, 12, 13, 14, 15, 16, 17, 18, 19, 20, 21, 22, 23, 24, 25, 26, 27, 28], [0, 1, 2, 3, 4, 5, 6, 7, 8, 9, 10, 11, 12, 13, 14, 15, 16, 17, 18, 19, 20, 21, 22, 23, 24, 25, 26, 27, 28, 29], [0, 1, 2, 3, 4, 5, 6, 7, 8, 9, 10, 11, 12, 13, 14, 15, 16, 17, 18, 19, 20, 21, 22, 23, 24, 25, 26, 27, 28, 29, 30]] [(8, [M]), (9, [M + 1]), (14, [M + 2]), (15, [M + 3]), (21, [M + 4]), (22, [M + 5]), (25, [N]), (28, [N]), (31, [N])] (by kernel_rfl) (by kernel_rfl) (by simp [apartW, unordB, cC] <;> omega)) | (apply Xg.s; constructor)) | (apply Ab.K.at_; exact at_) | (apply Ab.K.acall; first | assumption | fail) | (apply Ab.Rg.mk; omega) | (apply Ab.Lt.mk; first | decide | (simp; done) | (simp; omega) | (simp; done)) | (apply Ab.Get.mk; first | rfl | fail) | (apply Ab.Nm.mk; first | exact nrm_) | (apply Xg.s; constructor) | (apply Ab.asm; assumption) | rfl | infer_instance | decide))
      (apply Ab.O.appendNil (M + 5); (case hx => exact ev_); (case hy => exact ev_); (case hs => first | exact Src.sl (by exact at_) (by decide) (by decide) rfl | exact srcAll (by exact at_) (by simp [ints, start, ones])); (case hk => rfl); (case hm => decide); (case hl => first | rfl | simp [ints, start, ones]); (case hz => decide); (case hb => omega); (case hid => exact free_))
      (repeat' (first | (apply Ab.K.ev; first | exact Ev.hit | (apply Ev.missB; case h => rfl) | exact Ev.const | exact Ev.func | apply Ev.non | assumption | (apply Ev.arg; rfl)) | (apply Ab.K.aops; first | (apply Xg.s; constructor) | apply Ab.S.guardG) | (apply Ab.K.aop; first | (apply Og.s; constructor)) | (apply Ab.K.gk; first | (apply Xg.s; constructor) | (apply Ab.gY; case hw => assumption) | (apply Ab.gNT; case hw => assumption) | (apply Ab.gNF; case hw => assumption) | ((first | apply Ab.gD | apply Ab.gDN); all_goals (intro _ _; (first | contradiction | (exfalso; omega) | skip)))) | (apply Ab.K.aopsD; first | (apply Ab.D.q0t; (case hw => rfl); (case hot => rfl)) | (apply Ab.D.w1t; (case hw => rfl); (case hot => rfl)) | (apply Ab.D.q0; (case hw => rfl); intro _ _) | (apply Ab.D.w1n; (case hw => rfl); intro _ _) | (apply Ab.D.w2n; (case hw => rfl); intro _ _) | (apply Xg.s; constructor) | fail | apply Ab.D.guardG) | exact ⟨rfl, rfl⟩ | (apply Ab.K.awp; first | (apply AWp.draw (id := 7) [[], [], [], [], [3], [3, 4], [3, 4, 5], [], [7], [3, 4, 5, 6, 7, 8], [], [10], [10, 11], [10, 11, 12], [], [3, 4, 5, 6, 7, 8, 9, 10, 11, 12, 13, 14], [], [16], [16, 17], [16, 17, 18], [], [20], [3, 4, 5, 6, 7, 8, 9, 10, 11, 12, 13, 14, 15, 16, 17, 18, 19, 20, 21], [0, 3, 4, 5, 6, 7, 8, 9, 10, 11, 12, 13, 14, 15, 16, 17, 18, 19, 20, 21, 22], [0, 3, 4, 5, 6, 7, 8, 9, 10, 11, 12, 13, 14, 15, 16, 17, 18, 19, 20, 21, 22, 23], [0, 3, 4, 5, 6, 7, 8, 9, 10, 11, 12, 13, 14, 15, 16, 17, 18, 19, 20, 21, 22, 23, 24], [0, 1, 3, 4, 5, 6, 7, 8, 9, 10, 11, 12, 13, 14, 15, 16, 17, 18, 19, 20, 21, 22, 23, 24, 25], [0, 1, 3, 4, 5, 6, 7, 8, 9, 10, 11, 12, 13, 14, 15, 16, 17, 18, 19, 20, 21, 22, 23, 24, 25, 26], [0, 1, 3, 4, 5, 6, 7, 8, 9, 10, 11, 12, 13, 14, 15, 16, 17, 18, 19, 20, 21, 22, 23, 24, 25, 26, 27], [0, 1, 2, 3, 4, 5, 6, 7, 8, 9, 10, 11, 12, 13, 14, 15, 16, 17, 18, 19, 20, 21, 22, 23, 24, 25, 26, 27, 28], [0, 1, 2, 3, 4, 5, 6, 7, 8, 9, 10, 11, 12, 13, 14, 15, 16, 17, 18, 19, 20, 21, 22, 23, 24, 25, 26, 27, 28, 29], [0, 1, 2, 3, 4, 5, 6, 7, 8, 9, 10, 11, 12, 13, 14, 15, 16, 17, 18, 19, 20, 21, 22, 23, 24, 25, 26, 27, 28, 29, 30]] [(8, [M]), (9, [M + 1]), (14, [M + 2]), (15, [M + 3]), (21, [M + 4]), (22, [M + 5]), (25, [N]), (28, [N]), (31, [N])] (by kernel_rfl) (by kernel_rfl) (by simp [apartW, unordB, cC] <;> omega)) | (apply Xg.s; constructor)) | (apply Ab.K.at_; exact at_) | (apply Ab.K.acall; first | assumption | fail) | (apply Ab.Rg.mk; omega) | (apply Ab.Lt.mk; first | decide | (simp; done) | (simp; omega) | (simp; done)) | (apply Ab.Get.mk; first | rfl | fail) | (apply Ab.Nm.mk; first | exact nrm_) | (apply Xg.s; constructor) | (apply Ab.asm; assumption) | rfl | infer_instance | decide))

      refine X.roundN n (by omega) ⟨1, M + 6, by exact ev_, by exact ev_, by exact ev_, ?_, by omega, ?_, by omega, by omega, .inr ⟨M + 1, M + 3, M + 5, by omega, ⟨by omega, by omega, by omega, by omega, by omega, by omega⟩, ?_, ?_, ?_, ?_⟩⟩
      · exact top_
      · exact fr_
      · exact at_
      · exact at_
      · exact at_
      · exact at_
    · have hm1 := hM.lt hu
      have hm2 := hM.lt hz
      have hm3 := hM.lt hl
      (repeat' (first | (apply Ab.K.ev; first | exact Ev.hit | (apply Ev.missB; case h => rfl) | exact Ev.const | exact Ev.func | apply Ev.non | assumption | (apply Ev.arg; rfl)) | (apply Ab.K.aops; first | (apply Xg.s; constructor) | apply Ab.S.guardG) | (apply Ab.K.aop; first | (apply Og.s; constructor)) | (apply Ab.K.gk; first | (apply Xg.s; constructor) | (apply Ab.gY; case hw => assumption) | (apply Ab.gNT; case hw => assumption) | (apply Ab.gNF; case hw => assumption) | ((first | apply Ab.gD | apply Ab.gDN); all_goals (intro _ _; (first | contradiction | (exfalso; omega) | skip)))) | (apply Ab.K.aopsD; first | (apply Ab.D.q0t; (case hw => rfl); (case hot => rfl)) | (apply Ab.D.w1t; (case hw => rfl); (case hot => rfl)) | (apply Ab.D.q0; (case hw => rfl); intro _ _) | (apply Ab.D.w1n; (case hw => rfl); intro _ _) | (apply Ab.D.w2n; (case hw => rfl); intro _ _) | (apply Xg.s; constructor) | fail | apply Ab.D.guardG) | exact ⟨rfl, rfl⟩ | (apply Ab.K.awp; first | (apply AWp.draw (id := 7) [[], [], [], [], [3], [3, 4], [3, 4, 5], [], [7], [3, 4, 5, 6, 7, 8], [], [10], [10, 11], [10, 11, 12], [], [3, 4, 5, 6, 7, 8, 9, 10, 11, 12, 13, 14], [], [16], [16, 17], [16, 17, 18], [], [20], [3, 4, 5, 6, 7, 8, 9, 10, 11, 12, 13, 14, 15, 16, 17, 18, 19, 20, 21], [0, 3, 4, 5, 6, 7, 8, 9, 10, 11, 12, 13, 14, 15, 16, 17, 18, 19, 20, 21, 22], [0, 3, 4, 5, 6, 7, 8, 9, 10, 11, 12, 13, 14, 15, 16, 17, 18, 19, 20, 21, 22, 23], [0, 3, 4, 5, 6, 7, 8, 9, 10, 11, 12, 13, 14, 15, 16, 17, 18, 19, 20, 21, 22, 23, 24], [0, 1, 3, 4, 5, 6, 7, 8, 9, 10, 11, 12, 13, 14, 15, 16, 17, 18, 19, 20, 21, 22, 23, 24, 25], [0, 1, 3, 4, 5, 6, 7, 8, 9, 10, 11, 12, 13, 14, 15, 16, 17, 18, 19, 20, 21, 22, 23, 24, 25, 26], [0, 1, 3, 4, 5, 6, 7, 8, 9, 10, 11, 12, 13, 14, 15, 16, 17, 18, 19, 20, 21, 22, 23, 24, 25, 26, 27], [0, 1, 2, 3, 4, 5, 6, 7, 8, 9, 10, 11, 12, 13, 14, 15, 16, 17, 18, 19, 20, 21, 22, 23, 24, 25, 26, 27, 28], [0, 1, 2, 3, 4, 5, 6, 7, 8, 9, 10, 11, 12, 13, 14, 15, 16, 17, 18, 19, 20, 21, 22, 23, 24, 25, 26, 27, 28, 29], [0, 1, 2, 3, 4, 5, 6, 7, 8, 9, 10, 11, 12, 13, 14, 15, 16, 17, 18, 19, 20, 21, 22, 23, 24, 25, 26, 27, 28, 29, 30]] [(8, [M]), (9, [u1, M + 1]), (14, [M + 2]), (15, [z1, M + 3]), (21, [M + 4]), (22, [l1, M + 5]), (25, [N]), (28, [N]), (31, [N])] (by kernel_rfl) (by kernel_rfl) (by simp [apartW, unordB, cC] <;> omega)) | (apply Xg.s; constructor)) | (apply Ab.K.at_; exact at_) | (apply Ab.K.acall; first | assumption | fail) | (apply Ab.Rg.mk; omega) | (apply Ab.Lt.mk; first | decide | (simp; done) | (simp; omega) | (simp; done)) | (apply Ab.Get.mk; first | rfl | fail) | (apply Ab.Nm.mk; first | exact nrm_) | (apply Xg.s; constructor) | (apply Ab.asm; assumption) | rfl | infer_instance | decide))
      (apply Ab.O.build1 (M); (case hx => exact ev_); (case hv => exact ⟨rfl, rfl⟩); (case hz => exact ⟨rfl, rfl⟩); (case hid => exact free_))
      (repeat' (first | (apply Ab.K.ev; first | exact Ev.hit | (apply Ev.missB; case h => rfl) | exact Ev.const | exact Ev.func | apply Ev.non | assumption | (apply Ev.arg; rfl)) | (apply Ab.K.aops; first | (apply Xg.s; constructor) | apply Ab.S.guardG) | (apply Ab.K.aop; first | (apply Og.s; constructor)) | (apply Ab.K.gk; first | (apply Xg.s; constructor) | (apply Ab.gY; case hw => assumption) | (apply Ab.gNT; case hw => assumption) | (apply Ab.gNF; case hw => assumption) | ((first | apply Ab.gD | apply Ab.gDN); all_goals (intro _ _; (first | contradiction | (exfalso; omega) | skip)))) | (apply Ab.K.aopsD; first | (apply Ab.D.q0t; (case hw => rfl); (case hot => rfl)) | (apply Ab.D.w1t; (case hw => rfl); (case hot => rfl)) | (apply Ab.D.q0; (case hw => rfl); intro _ _) | (apply Ab.D.w1n; (case hw => rfl); intro _ _) | (apply Ab.D.w2n; (case hw => rfl); intro _ _) | (apply Xg.s; constructor) | fail | apply Ab.D.guardG) | exact ⟨rfl, rfl⟩ | (apply Ab.K.awp; first | (apply AWp.draw (id := 7) [[], [], [], [], [3], [3, 4], [3, 4, 5], [], [7], [3, 4, 5, 6, 7, 8], [], [10], [10, 11], [10, 11, 12], [], [3, 4, 5, 6, 7, 8, 9, 10, 11, 12, 13, 14], [], [16], [16, 17], [16, 17, 18], [], [20], [3, 4, 5, 6, 7, 8, 9, 10, 11, 12, 13, 14, 15, 16, 17, 18, 19, 20, 21], [0, 3, 4, 5, 6, 7, 8, 9, 10, 11, 12, 13, 14, 15, 16, 17, 18, 19, 20, 21, 22], [0, 3, 4, 5, 6, 7, 8, 9, 10, 11, 12, 13, 14, 15, 16, 17, 18, 19, 20, 21, 22, 23], [0, 3, 4, 5, 6, 7, 8, 9, 10, 11, 12, 13, 14, 15, 16, 17, 18, 19, 20, 21, 22, 23, 24], [0, 1, 3, 4, 5, 6, 7, 8, 9, 10, 11, 12, 13, 14, 15, 16, 17, 18, 19, 20, 21, 22, 23, 24, 25], [0, 1, 3, 4, 5, 6, 7, 8, 9, 10, 11, 12, 13, 14, 15, 16, 17, 18, 19, 20, 21, 22, 23, 24, 25, 26], [0, 1, 3, 4, 5, 6, 7, 8, 9, 10, 11, 12, 13, 14, 15, 16, 17, 18, 19, 20, 21, 22, 23, 24, 25, 26, 27], [0, 1, 2, 3, 4, 5, 6, 7, 8, 9, 10, 11, 12, 13, 14, 15, 16, 17, 18, 19, 20, 21, 22, 23, 24, 25, 26, 27, 28], [0, 1, 2, 3, 4, 5, 6, 7, 8, 9, 10, 11, 12, 13, 14, 15, 16, 17, 18, 19, 20, 21, 22, 23, 24, 25, 26, 27, 28, 29], [0, 1, 2, 3, 4, 5, 6, 7, 8, 9, 10, 11, 12, 13, 14, 15, 16, 17, 18, 19, 20, 21, 22, 23, 24, 25, 26, 27, 28, 29, 30]] [(8, [M]), (9, [u1, M + 1]), (14, [M + 2]), (15, [z1, M + 3]), (21, [M + 4]), (22, [l1, M + 5]), (25, [N]), (28, [N]), (31, [N])] (by kernel_rfl) (by kernel_rfl) (by simp [apartW, unordB, cC] <;> omega)) | (apply Xg.s; constructor)) | (apply Ab.K.at_; exact at_) | (apply Ab.K.acall; first | assumption | fail) | (apply Ab.Rg.mk; omega) | (apply Ab.Lt.mk; first | decide | (simp; done) | (simp; omega) | (simp; done)) | (apply Ab.Get.mk; first | rfl | fail) | (apply Ab.Nm.mk; first | exact nrm_) | (apply Xg.s; constructor) | (apply Ab.asm; assumption) | rfl | infer_instance | decide))
      (apply Ab.O.appendMove (M + 1); (case hx => exact ev_); (case hy => exact ev_); (case hs => first | exact Src.sl (by exact at_) (by decide) (by decide) rfl | exact srcAll (by exact at_) (by simp [ints, start, ones])); (case ha => exact at_); (case hk => rfl); (case hm => decide); (case hr => omega); (case hl => first | rfl | simp [ints, start, ones]); (case hz => decide); (case hb => omega); (case hid => exact free_); (case ho => simp [ints, start, ones]); (case hold => (rw [List.drop_zero, List.take_of_length_le (by simp [ints, start, ones])])))
      (repeat' (first | (apply Ab.K.ev; first | exact Ev.hit | (apply Ev.missB; case h => rfl) | exact Ev.const | exact Ev.func | apply Ev.non | assumption | (apply Ev.arg; rfl)) | (apply Ab.K.aops; first | (apply Xg.s; constructor) | apply Ab.S.guardG) | (apply Ab.K.aop; first | (apply Og.s; constructor)) | (apply Ab.K.gk; first | (apply Xg.s; constructor) | (apply Ab.gY; case hw => assumption) | (apply Ab.gNT; case hw => assumption) | (apply Ab.gNF; case hw => assumption) | ((first | apply Ab.gD | apply Ab.gDN); all_goals (intro _ _; (first | contradiction | (exfalso; omega) | skip)))) | (apply Ab.K.aopsD; first | (apply Ab.D.q0t; (case hw => rfl); (case hot => rfl)) | (apply Ab.D.w1t; (case hw => rfl); (case hot => rfl)) | (apply Ab.D.q0; (case hw => rfl); intro _ _) | (apply Ab.D.w1n; (case hw => rfl); intro _ _) | (apply Ab.D.w2n; (case hw => rfl); intro _ _) | (apply Xg.s; constructor) | fail | apply Ab.D.guardG) | exact ⟨rfl, rfl⟩ | (apply Ab.K.awp; first | (apply AWp.draw (id := 7) [[], [], [], [], [3], [3, 4], [3, 4, 5], [], [7], [3, 4, 5, 6, 7, 8], [], [10], [10, 11], [10, 11, 12], [], [3, 4, 5, 6, 7, 8, 9, 10, 11, 12, 13, 14], [], [16], [16, 17], [16, 17, 18], [], [20], [3, 4, 5, 6, 7, 8, 9, 10, 11, 12, 13, 14, 15, 16, 17, 18, 19, 20, 21], [0, 3, 4, 5, 6, 7, 8, 9, 10, 11, 12, 13, 14, 15, 16, 17, 18, 19, 20, 21, 22], [0, 3, 4, 5, 6, 7, 8, 9, 10, 11, 12, 13, 14, 15, 16, 17, 18, 19, 20, 21, 22, 23], [0, 3, 4, 5, 6, 7, 8, 9, 10, 11, 12, 13, 14, 15, 16, 17, 18, 19, 20, 21, 22, 23, 24], [0, 1, 3, 4, 5, 6, 7, 8, 9, 10, 11, 12, 13, 14, 15, 16, 17, 18, 19, 20, 21, 22, 23, 24, 25], [0, 1, 3, 4, 5, 6, 7, 8, 9, 10, 11, 12, 13, 14, 15, 16, 17, 18, 19, 20, 21, 22, 23, 24, 25, 26], [0, 1, 3, 4, 5, 6, 7, 8, 9, 10, 11, 12, 13, 14, 15, 16, 17, 18, 19, 20, 21, 22, 23, 24, 25, 26, 27], [0, 1, 2, 3, 4, 5, 6, 7, 8, 9, 10, 11, 12, 13, 14, 15, 16, 17, 18, 19, 20, 21, 22, 23, 24, 25, 26, 27, 28], [0, 1, 2, 3, 4, 5, 6, 7, 8, 9, 10, 11, 12, 13, 14, 15, 16, 17, 18, 19, 20, 21, 22, 23, 24, 25, 26, 27, 28, 29], [0, 1, 2, 3, 4, 5, 6, 7, 8, 9, 10, 11, 12, 13, 14, 15, 16, 17, 18, 19, 20, 21, 22, 23, 24, 25, 26, 27, 28, 29, 30]] [(8, [M]), (9, [u1, M + 1]), (14, [M + 2]), (15, [z1, M + 3]), (21, [M + 4]), (22, [l1, M + 5]), (25, [N]), (28, [N]), (31, [N])] (by kernel_rfl) (by kernel_rfl) (by simp [apartW, unordB, cC] <;> omega)) | (apply Xg.s; constructor)) | (apply Ab.K.at_; exact at_) | (apply Ab.K.acall; first | assumption | fail) | (apply Ab.Rg.mk; omega) | (apply Ab.Lt.mk; first | decide | (simp; done) | (simp; omega) | (simp; done)) | (apply Ab.Get.mk; first | rfl | fail) | (apply Ab.Nm.mk; first | exact nrm_) | (apply Xg.s; constructor) | (apply Ab.asm; assumption) | rfl | infer_instance | decide))
      (apply Ab.O.build1 (M + 2); (case hx => exact ev_); (case hv => exact ⟨rfl, rfl⟩); (case hz => exact ⟨rfl, rfl⟩); (case hid => exact free_))
      (repeat' (first | (apply Ab.K.ev; first | exact Ev.hit | (apply Ev.missB; case h => rfl) | exact Ev.const | exact Ev.func | apply Ev.non | assumption | (apply Ev.arg; rfl)) | (apply Ab.K.aops; first | (apply Xg.s; constructor) | apply Ab.S.guardG) | (apply Ab.K.aop; first | (apply Og.s; constructor)) | (apply Ab.K.gk; first | (apply Xg.s; constructor) | (apply Ab.gY; case hw => assumption) | (apply Ab.gNT; case hw => assumption) | (apply Ab.gNF; case hw => assumption) | ((first | apply Ab.gD | apply Ab.gDN); all_goals (intro _ _; (first | contradiction | (exfalso; omega) | skip)))) | (apply Ab.K.aopsD; first | (apply Ab.D.q0t; (case hw => rfl); (case hot => rfl)) | (apply Ab.D.w1t; (case hw => rfl); (case hot => rfl)) | (apply Ab.D.q0; (case hw => rfl); intro _ _) | (apply Ab.D.w1n; (case hw => rfl); intro _ _) | (apply Ab.D.w2n; (case hw => rfl); intro _ _) | (apply Xg.s; constructor) | fail | apply Ab.D.guardG) | exact ⟨rfl, rfl⟩ | (apply Ab.K.awp; first | (apply AWp.draw (id := 7) [[], [], [], [], [3], [3, 4], [3, 4, 5], [], [7], [3, 4, 5, 6, 7, 8], [], [10], [10, 11], [10, 11, 12], [], [3, 4, 5, 6, 7, 8, 9, 10, 11, 12, 13, 14], [], [16], [16, 17], [16, 17, 18], [], [20], [3, 4, 5, 6, 7, 8, 9, 10, 11, 12, 13, 14, 15, 16, 17, 18, 19, 20, 21], [0, 3, 4, 5, 6, 7, 8, 9, 10, 11, 12, 13, 14, 15, 16, 17, 18, 19, 20, 21, 22], [0, 3, 4, 5, 6, 7, 8, 9, 10, 11, 12, 13, 14, 15, 16, 17, 18, 19, 20, 21, 22, 23], [0, 3, 4, 5, 6, 7, 8, 9, 10, 11, 12, 13, 14, 15, 16, 17, 18, 19, 20, 21, 22, 23, 24], [0, 1, 3, 4, 5, 6, 7, 8, 9, 10, 11, 12, 13, 14, 15, 16, 17, 18, 19, 20, 21, 22, 23, 24, 25], [0, 1, 3, 4, 5, 6, 7, 8, 9, 10, 11, 12, 13, 14, 15, 16, 17, 18, 19, 20, 21, 22, 23, 24, 25, 26], [0, 1, 3, 4, 5, 6, 7, 8, 9, 10, 11, 12, 13, 14, 15, 16, 17, 18, 19, 20, 21, 22, 23, 24, 25, 26, 27], [0, 1, 2, 3, 4, 5, 6, 7, 8, 9, 10, 11, 12, 13, 14, 15, 16, 17, 18, 19, 20, 21, 22, 23, 24, 25, 26, 27, 28], [0, 1, 2, 3, 4, 5, 6, 7, 8, 9, 10, 11, 12, 13, 14, 15, 16, 17, 18, 19, 20, 21, 22, 23, 24, 25, 26, 27, 28, 29], [0, 1, 2, 3, 4, 5, 6, 7, 8, 9, 10, 11, 12, 13, 14, 15, 16, 17, 18, 19, 20, 21, 22, 23, 24, 25, 26, 27, 28, 29, 30]] [(8, [M]), (9, [u1, M + 1]), (14, [M + 2]), (15, [z1, M + 3]), (21, [M + 4]), (22, [l1, M + 5]), (25, [N]), (28, [N]), (31, [N])] (by kernel_rfl) (by kernel_rfl) (by simp [apartW, unordB, cC] <;> omega)) | (apply Xg.s; constructor)) | (apply Ab.K.at_; exact at_) | (apply Ab.K.acall; first | assumption | fail) | (apply Ab.Rg.mk; omega) | (apply Ab.Lt.mk; first | decide | (simp; done) | (simp; omega) | (simp; done)) | (apply Ab.Get.mk; first | rfl | fail) | (apply Ab.Nm.mk; first | exact nrm_) | (apply Xg.s; constructor) | (apply Ab.asm; assumption) | rfl | infer_instance | decide))
      (apply Ab.O.appendMove (M + 3); (case hx => exact ev_); (case hy => exact ev_); (case hs => first | exact Src.sl (by exact at_) (by decide) (by decide) rfl | exact srcAll (by exact at_) (by simp [ints, start, ones])); (case ha => exact at_); (case hk => rfl); (case hm => decide); (case hr => omega); (case hl => first | rfl | simp [ints, start, ones]); (case hz => decide); (case hb => omega); (case hid => exact free_); (case ho => simp [ints, start, ones]); (case hold => (rw [List.drop_zero, List.take_of_length_le (by simp [ints, start, ones])])))
      (repeat' (first | (apply Ab.K.ev; first | exact Ev.hit | (apply Ev.missB; case h => rfl) | exact Ev.const | exact Ev.func | apply Ev.non | assumption | (apply Ev.arg; rfl)) | (apply Ab.K.aops; first | (apply Xg.s; constructor) | apply Ab.S.guardG) | (apply Ab.K.aop; first | (apply Og.s; constructor)) | (apply Ab.K.gk; first | (apply Xg.s; constructor) | (apply Ab.gY; case hw => assumption) | (apply Ab.gNT; case hw => assumption) | (apply Ab.gNF; case hw => assumption) | ((first | apply Ab.gD | apply Ab.gDN); all_goals (intro _ _; (first | contradiction | (exfalso; omega) | skip)))) | (apply Ab.K.aopsD; first | (apply Ab.D.q0t; (case hw => rfl); (case hot => rfl)) | (apply Ab.D.w1t; (case hw => rfl); (case hot => rfl)) | (apply Ab.D.q0; (case hw => rfl); intro _ _) | (apply Ab.D.w1n; (case hw => rfl); intro _ _) | (apply Ab.D.w2n; (case hw => rfl); intro _ _) | (apply Xg.s; constructor) | fail | apply Ab.D.guardG) | exact ⟨rfl, rfl⟩ | (apply Ab.K.awp; first | (apply AWp.draw (id := 7) [[], [], [], [], [3], [3, 4], [3, 4, 5], [], [7], [3, 4, 5, 6, 7, 8], [], [10], [10, 11], [10, 11, 12], [], [3, 4, 5, 6, 7, 8, 9, 10, 11, 12, 13, 14], [], [16], [16, 17], [16, 17, 18], [], [20], [3, 4, 5, 6, 7, 8, 9, 10, 11, 12, 13, 14, 15, 16, 17, 18, 19, 20, 21], [0, 3, 4, 5, 6, 7, 8, 9, 10, 11, 12, 13, 14, 15, 16, 17, 18, 19, 20, 21, 22], [0, 3, 4, 5, 6, 7, 8, 9, 10, 11, 12, 13, 14, 15, 16, 17, 18, 19, 20, 21, 22, 23], [0, 3, 4, 5, 6, 7, 8, 9, 10, 11, 12, 13, 14, 15, 16, 17, 18, 19, 20, 21, 22, 23, 24], [0, 1, 3, 4, 5, 6, 7, 8, 9, 10, 11, 12, 13, 14, 15, 16, 17, 18, 19, 20, 21, 22, 23, 24, 25], [0, 1, 3, 4, 5, 6, 7, 8, 9, 10, 11, 12, 13, 14, 15, 16, 17, 18, 19, 20, 21, 22, 23, 24, 25, 26], [0, 1, 3, 4, 5, 6, 7, 8, 9, 10, 11, 12, 13, 14, 15, 16, 17, 18, 19, 20, 21, 22, 23, 24, 25, 26, 27], [0, 1, 2, 3, 4, 5, 6, 7, 8, 9, 10, 11, 12, 13, 14, 15, 16, 17, 18, 19, 20, 21, 22, 23, 24, 25, 26, 27, 28], [0, 1, 2, 3, 4, 5, 6, 7, 8, 9, 10, 11, 12, 13, 14, 15, 16, 17, 18, 19, 20, 21, 22, 23, 24, 25, 26, 27, 28, 29], [0, 1, 2, 3, 4, 5, 6, 7, 8, 9, 10, 11, 12, 13, 14, 15, 16, 17, 18, 19, 20, 21, 22, 23, 24, 25, 26, 27, 28, 29, 30]] [(8, [M]), (9, [u1, M + 1]), (14, [M + 2]), (15, [z1, M + 3]), (21, [M + 4]), (22, [l1, M + 5]), (25, [N]), (28, [N]), (31, [N])] (by kernel_rfl) (by kernel_rfl) (by simp [apartW, unordB, cC] <;> omega)) | (apply Xg.s; constructor)) | (apply Ab.K.at_; exact at_) | (apply Ab.K.acall; first | assumption | fail) | (apply Ab.Rg.mk; omega) | (apply Ab.Lt.mk; first | decide | (simp; done) | (simp; omega) | (simp; done)) | (apply Ab.Get.mk; first | rfl | fail) | (apply Ab.Nm.mk; first | exact nrm_) | (apply Xg.s; constructor) | (apply Ab.asm; assumption) | rfl | infer_instance | decide))
      (apply Ab.O.build1 (M + 4); (case hx => exact ev_); (case hv => exact ⟨rfl, rfl⟩); (case hz => exact ⟨rfl, rfl⟩); (case hid => exact free_))
      (repeat' (first | (apply Ab.K.ev; first | exact Ev.hit | (apply Ev.missB; case h => rfl) | exact Ev.const | exact Ev.func | apply Ev.non | assumption | (apply Ev.arg; rfl)) | (apply Ab.K.aops; first | (apply Xg.s; constructor) | apply Ab.S.guardG) | (apply Ab.K.aop; first | (apply Og.s; constructor)) | (apply Ab.K.gk; first | (apply Xg.s; constructor) | (apply Ab.gY; case hw => assumption) | (apply Ab.gNT; case hw => assumption) | (apply Ab.gNF; case hw => assumption) | ((first | apply Ab.gD | apply Ab.gDN); all_goals (intro _ _; (first | contradiction | (exfalso; omega) | skip)))) | (apply Ab.K.aopsD; first | (apply Ab.D.q0t; (case hw => rfl); (case hot => rfl)) | (apply Ab.D.w1t; (case hw => rfl); (case hot => rfl)) | (apply Ab.D.q0; (case hw => rfl); intro _ _) | (apply Ab.D.w1n; (case hw => rfl); intro _ _) | (apply Ab.D.w2n; (case hw => rfl); intro _ _) | (apply Xg.s; constructor) | fail | apply Ab.D.guardG) | exact ⟨rfl, rfl⟩ | (apply Ab.K.awp; first | (apply AWp.draw (id := 7) [[], [], [], [], [3], [3, 4], [3, 4, 5], [], [7], [3, 4, 5, 6, 7, 8], [], [10], [10, 11], [10, 11, 12], [], [3, 4, 5, 6, 7, 8, 9, 10, 11, 12, 13, 14], [], [16], [16, 17], [16, 17, 18], [], [20], [3, 4, 5, 6, 7, 8, 9, 10, 11, 12, 13, 14, 15, 16, 17, 18, 19, 20, 21], [0, 3, 4, 5, 6, 7, 8, 9, 10, 11, 12, 13, 14, 15, 16, 17, 18, 19, 20, 21, 22], [0, 3, 4, 5, 6, 7, 8, 9, 10, 11, 12, 13, 14, 15, 16, 17, 18, 19, 20, 21, 22, 23], [0, 3, 4, 5, 6, 7, 8, 9, 10, 11, 12, 13, 14, 15, 16, 17, 18, 19, 20, 21, 22, 23, 24], [0, 1, 3, 4, 5, 6, 7, 8, 9, 10, 11, 12, 13, 14, 15, 16, 17, 18, 19, 20, 21, 22, 23, 24, 25], [0, 1, 3, 4, 5, 6, 7, 8, 9, 10, 11, 12, 13, 14, 15, 16, 17, 18, 19, 20, 21, 22, 23, 24, 25, 26], [0, 1, 3, 4, 5, 6, 7, 8, 9, 10, 11, 12, 13, 14, 15, 16, 17, 18, 19, 20, 21, 22, 23, 24, 25, 26, 27], [0, 1, 2, 3, 4, 5, 6, 7, 8, 9, 10, 11, 12, 13, 14, 15, 16, 17, 18, 19, 20, 21, 22, 23, 24, 25, 26, 27, 28], [0, 1, 2, 3, 4, 5, 6, 7, 8, 9, 10, 11, 12, 13, 14, 15, 16, 17, 18, 19, 20, 21, 22, 23, 24, 25, 26, 27, 28, 29], [0, 1, 2, 3, 4, 5, 6, 7, 8, 9, 10, 11, 12, 13, 14, 15, 16, 17, 18, 19, 20, 21, 22, 23, 24, 25, 26, 27, 28, 29, 30]] [(8, [M]), (9, [u1, M + 1]), (14, [M + 2]), (15, [z1, M + 3]), (21, [M + 4]), (22, [l1, M + 5]), (25, [N]), (28, [N]), (31, [N])] (by kernel_rfl) (by kernel_rfl) (by simp [apartW, unordB, cC] <;> omega)) | (apply Xg.s; constructor)) | (apply Ab.K.at_; exact at_) | (apply Ab.K.acall; first | assumption | fail) | (apply Ab.Rg.mk; omega) | (apply Ab.Lt.mk; first | decide | (simp; done) | (simp; omega) | (simp; done)) | (apply Ab.Get.mk; first | rfl | fail) | (apply Ab.Nm.mk; first | exact nrm_) | (apply Xg.s; constructor) | (apply Ab.asm; assumption) | rfl | infer_instance | decide))
      (apply Ab.O.appendMove (M + 5); (case hx => exact ev_); (case hy => exact ev_); (case hs => first | exact Src.sl (by exact at_) (by decide) (by decide) rfl | exact srcAll (by exact at_) (by simp [ints, start, ones])); (case ha => exact at_); (case hk => rfl); (case hm => decide); (case hr => omega); (case hl => first | rfl | simp [ints, start, ones]); (case hz => decide); (case hb => omega); (case hid => exact free_); (case ho => simp [ints, start, ones]); (case hold => (rw [List.drop_zero, List.take_of_length_le (by simp [ints, start, ones])])))
      (repeat' (first | (apply Ab.K.ev; first | exact Ev.hit | (apply Ev.missB; case h => rfl) | exact Ev.const | exact Ev.func | apply Ev.non | assumption | (apply Ev.arg; rfl)) | (apply Ab.K.aops; first | (apply Xg.s; constructor) | apply Ab.S.guardG) | (apply Ab.K.aop; first | (apply Og.s; constructor)) | (apply Ab.K.gk; first | (apply Xg.s; constructor) | (apply Ab.gY; case hw => assumption) | (apply Ab.gNT; case hw => assumption) | (apply Ab.gNF; case hw => assumption) | ((first | apply Ab.gD | apply Ab.gDN); all_goals (intro _ _; (first | contradiction | (exfalso; omega) | skip)))) | (apply Ab.K.aopsD; first | (apply Ab.D.q0t; (case hw => rfl); (case hot => rfl)) | (apply Ab.D.w1t; (case hw => rfl); (case hot => rfl)) | (apply Ab.D.q0; (case hw => rfl); intro _ _) | (apply Ab.D.w1n; (case hw => rfl); intro _ _) | (apply Ab.D.w2n; (case hw => rfl); intro _ _) | (apply Xg.s; constructor) | fail | apply Ab.D.guardG) | exact ⟨rfl, rfl⟩ | (apply Ab.K.awp; first | (apply AWp.draw (id := 7) [[], [], [], [], [3], [3, 4], [3, 4, 5], [], [7], [3, 4, 5, 6, 7, 8], [], [10], [10, 11], [10, 11, 12], [], [3, 4, 5, 6, 7, 8, 9, 10, 11, 12, 13, 14], [], [16], [16, 17], [16, 17, 18], [], [20], [3, 4, 5, 6, 7, 8, 9, 10, 11, 12, 13, 14, 15, 16, 17, 18, 19, 20, 21], [0, 3, 4, 5, 6, 7, 8, 9, 10, 11, 12, 13, 14, 15, 16, 17, 18, 19, 20, 21, 22], [0, 3, 4, 5, 6, 7, 8, 9, 10, 11, 12, 13, 14, 15, 16, 17, 18, 19, 20, 21, 22, 23], [0, 3, 4, 5, 6, 7, 8, 9, 10, 11, 12, 13, 14, 15, 16, 17, 18, 19, 20, 21, 22, 23, 24], [0, 1, 3, 4, 5, 6, 7, 8, 9, 10, 11, 12, 13, 14, 15, 16, 17, 18, 19, 20, 21, 22, 23, 24, 25], [0, 1, 3, 4, 5, 6, 7, 8, 9, 10, 11, 12, 13, 14, 15, 16, 17, 18, 19, 20, 21, 22, 23, 24, 25, 26], [0, 1, 3, 4, 5, 6, 7, 8, 9, 10, 11, 12, 13, 14, 15, 16, 17, 18, 19, 20, 21, 22, 23, 24, 25, 26, 27], [0, 1, 2, 3, 4, 5, 6, 7, 8, 9, 10, 11, 12, 13, 14, 15, 16, 17, 18, 19, 20, 21, 22, 23, 24, 25, 26, 27, 28], [0, 1, 2, 3, 4, 5, 6, 7, 8, 9, 10, 11, 12, 13, 14, 15, 16, 17, 18, 19, 20, 21, 22, 23, 24, 25, 26, 27, 28, 29], [0, 1, 2, 3, 4, 5, 6, 7, 8, 9, 10, 11, 12, 13, 14, 15, 16, 17, 18, 19, 20, 21, 22, 23, 24, 25, 26, 27, 28, 29, 30]] [(8, [M]), (9, [u1, M + 1]), (14, [M + 2]), (15, [z1, M + 3]), (21, [M + 4]), (22, [l1, M + 5]), (25, [N]), (28, [N]), (31, [N])] (by kernel_rfl) (by kernel_rfl) (by simp [apartW, unordB, cC] <;> omega)) | (apply Xg.s; constructor)) | (apply Ab.K.at_; exact at_) | (apply Ab.K.acall; first | assumption | fail) | (apply Ab.Rg.mk; omega) | (apply Ab.Lt.mk; first | decide | (simp; done) | (simp; omega) | (simp; done)) | (apply Ab.Get.mk; first | rfl | fail) | (apply Ab.Nm.mk; first | exact nrm_) | (apply Xg.s; constructor) | (apply Ab.asm; assumption) | rfl | infer_instance | decide))
      have fu1 : Free s u1 := hT.free (by omega)
      have fz1 : Free s z1 := hT.free (by omega)
      have fl1 : Free s l1 := hT.free (by omega)
      refine X.roundN (n + 1 - (i + 1)) (by omega) ⟨i + 1, M + 6, by exact ev_, by exact ev_, by exact ev_, ?_, by omega, ?_, by omega, by omega, .inr ⟨M + 1, M + 3, M + 5, by omega, ⟨by omega, by omega, by omega, by omega, by omega, by omega⟩, ?_, ?_, ?_, ?_⟩⟩
      · exact top_
      · exact fr_
      · exact at_
      · rw [start_succ, ints_append]; exact at_
      · rw [ones_succ, ints_append]; exact at_
      · rw [start_succ, ints_append]; exact at_
  · obtain rfl : i = n + 1 := by omega
    rcases hcase with ⟨h0, _⟩ | ⟨u1, z1, l1, hi0, ⟨e1, e2, e3, e4, e5, e6⟩, hj, hu, hz, hl⟩
    · omega
    · (repeat' (first | (apply Ab.K.ev; first | exact Ev.hit | (apply Ev.missB; case h => rfl) | exact Ev.const | exact Ev.func | apply Ev.non | assumption | (apply Ev.arg; rfl)) | (apply Ab.K.aops; first | (apply Xg.s; constructor) | apply Ab.S.guardG) | (apply Ab.K.aop; first | (apply Og.s; constructor)) | (apply Ab.K.gk; first | (apply Xg.s; constructor) | (apply Ab.gY; case hw => assumption) | (apply Ab.gNT; case hw => assumption) | (apply Ab.gNF; case hw => assumption) | ((first | apply Ab.gD | apply Ab.gDN); all_goals (intro _ _; (first | contradiction | (exfalso; omega) | skip)))) | (apply Ab.K.awp; first | (apply Xg.s; constructor)) | (apply Ab.K.at_; exact at_) | (apply Ab.K.acall; first | assumption | fail) | (apply Ab.Rg.mk; omega) | (apply Ab.Lt.mk; first | decide | (simp; done) | (simp; omega) | (simp; done)) | (apply Ab.Get.mk; first | rfl | fail) | (apply Ab.Nm.mk; first | exact nrm_) | (apply Xg.s; constructor) | (apply Ab.asm; assumption) | rfl | infer_instance | decide))
      obtain ⟨π, hπ, hk⟩ := new_keeps (c1 := n + 1) (c2 := n + 1) (c3 := n + 1) (U := start (n + 1)) (S := ones (n + 1)) (L := start (n + 1)) (v := .tuple #[.pointer (some ⟨j, 0, none⟩), .int .i64 0]) (start_length _) fj fu fz fl (hT.none (Nat.le_refl _)) (hT.none (i := u1) (by omega)) (hT.none (i := z1) (by omega)) (hT.none (i := l1) (by omega)) hne ⟨by omega, by omega, by omega, e4, e5, e6⟩ hfr hj hu hz hl (by simp [nmR, nmB, nm1, nmA])
      apply RetQ.retR π
      (case he => exact evr_)
      (case hg => rfl)
      · simp [resV, mpR, mpB, mp1, mpA, hπ]
      · exact hk
      · simp
end Go.Proofs.Ytdbnpghckgmaoaa
