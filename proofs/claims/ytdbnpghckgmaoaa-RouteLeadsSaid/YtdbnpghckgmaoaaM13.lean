/- texts of this claim, one behind the other: TA, TB, TC, TJ1, TD. -/
import Derived.Test.YtdbnpghckgmaoaaM1
import Derived.Test.YtdbnpghckgmaoaaM10
import Derived.Test.YtdbnpghckgmaoaaM12
import Derived.Test.YtdbnpghckgmaoaaProg
import Derived.KernelRfl
import Derived.Laws.StructEq

/- trees: nodes, edges, their order, lists of numbers. -/
namespace Go.Proofs.Ytdbnpghckgmaoaa
set_option linter.unusedVariables false
set_option linter.unusedSimpArgs false
set_option linter.unusedSectionVars false
open Go.RowKit Ab TP
attribute [local irreducible] AOps AOpsD AOp AWp put nargs AHeap.set At Free ACall thenQ blockQ roundQ RetQ Src
instance : HasTD Try.prog 3 ⟨.int .i64, 1, 8, .int .i64 0⟩ := ⟨by kernel_rfl⟩
instance : HasTD Try.prog 4 ⟨.bool, 1, 1, .bool false⟩ := ⟨by kernel_rfl⟩
instance : HasTD Try.prog 34 ⟨.slice 43, 1, 24, .slice none 0 0⟩ := ⟨by kernel_rfl⟩
instance : HasTD Try.prog 22 ⟨.slice 3, 1, 24, .slice none 0 0⟩ := ⟨by kernel_rfl⟩
instance : HasTD Try.prog 28 ⟨.int .i64, 1, 8, .int .i64 0⟩ := ⟨by kernel_rfl⟩
instance : HasPl Try.prog 43 [(0, 1), (1, 1), (2, 1)] := ⟨by kernel_rfl⟩
instance : HasTD Try.prog 43 ⟨.struct [(0, 3), (1, 3), (2, 3)], 3, 24, .agg #[.int .i64 0, .int .i64 0, .int .i64 0]⟩ := ⟨by kernel_rfl⟩
instance : HasTD Try.prog 70 ⟨.ptr 88, 1, 8, .pointer none⟩ := ⟨by kernel_rfl⟩
instance : HasTD Try.prog 84 ⟨.map 43 4, 1, 8, .map none⟩ := ⟨by kernel_rfl⟩
instance : HasPl Try.prog 88 [(0, 1), (1, 1), (2, 1), (3, 1)] := ⟨by kernel_rfl⟩
instance : HasTD Try.prog 88 ⟨.struct [(0, 22), (1, 22), (2, 22), (3, 3)], 4, 80, .agg #[.slice none 0 0, .slice none 0 0, .slice none 0 0, .int .i64 0]⟩ := ⟨by kernel_rfl⟩


def ints (l : List Int) : List Value := l.map (.int .i64)
theorem ints_length (l : List Int) : (ints l).length = l.length := by simp [ints]
theorem ints_append (a b : List Int) : ints (a ++ b) = ints a ++ ints b := by simp [ints]
theorem ints_pl (l : List Int) : (ints l).all pl1 = true := by simp [ints, pl1, plA]
theorem ints_get {l : List Int} {i : Nat} {x : Int} (h : l[i]? = some x) : (ints l)[i]? = some (.int .i64 x) := by simp [ints, h]
/-- An edge's cells. -/
def ec (e : E) : List Value := [.int .i64 e.a, .int .i64 e.b, .int .i64 e.w]
def ecs (l : List E) : List Value := l.flatMap ec
theorem ecs_length (l : List E) : (ecs l).length = l.length * 3 := by
  unfold ecs
  induction l with
  | nil => rfl
  | cons e l ih => rw [List.flatMap_cons, List.length_append, ih, List.length_cons]; show 3 + _ = _; omega
theorem ecs_append (a b : List E) : ecs (a ++ b) = ecs a ++ ecs b := by simp [ecs]
theorem ecs_pl (l : List E) : (ecs l).all pl1 = true := by simp [ecs, ec, pl1, plA]
theorem ecs_get {l : List E} {i : Nat} {e : E} (h : l[i]? = some e) : ((ecs l).drop (i * 3)).take 3 = ec e := by
  induction l generalizing i with
  | nil => simp at h
  | cons f l ih =>
    cases i with
    | zero => simp at h; subst h; simp [ecs, ec]
    | succ i =>
      rw [List.getElem?_cons_succ] at h
      have e1 : (i + 1) * 3 = 3 + i * 3 := by omega
      have e2 : ecs (f :: l) = ec f ++ ecs l := by simp [ecs]
      rw [e1, e2, ← List.drop_drop, show (ec f ++ ecs l).drop 3 = ecs l from rfl]
      exact ih h
theorem ecs_cell {l : List E} {i : Nat} {e : E} (h : l[i]? = some e) (j : Nat) (hj : j < 3) : (ecs l)[i * 3 + j]? = (ec e)[j]? := by
  rw [← ecs_get h, List.getElem?_take, if_pos hj, List.getElem?_drop]

/-! ### equal edges -/
theorem eq32 {x y : Operand} {e f : E} : ABin Try.prog .eql 43 x y (.agg (ec e).toArray) (.agg (ec f).toArray) (.bool (decide (e = f))) := by
  refine .inr ⟨rfl, rfl, rfl, fun w => ?_⟩
  have u3 := Try.underlying3
  have a3 := Try.isAgg3
  have z3 := Try.sizeOf3
  have hS : Try.prog.underlying 43 = some (.struct (Try.prog.fieldsOf 43)) := by kernel_rfl
  have hp : Try.prog.stoodInHeld 43 = false := by kernel_rfl
  have hg : Try.prog.eqGuardType Try.prog.depth 43 = false := by kernel_rfl
  rw [Sem.run_bind, run_eqGuard_agg w _ _ _ _ _ _ hg, Result.andThen_ok, run_eql_struct, show (10000 : Nat) = 9999 + 1 from rfl, run_equalIn_agg w 9999 43 _ _ hS hp]
  simp only [Program.fieldsOf, Try.underlying43]
  obtain ⟨a, b, c⟩ := e
  obtain ⟨a', b', c'⟩ := f
  unfold ec
  go_simp
  by_cases h1 : a = a' <;> by_cases h2 : b = b' <;> by_cases h3 : c = c' <;> simp [h1, h2, h3]
theorem ne32 {x y : Operand} {e f : E} : ABin Try.prog .neq 43 x y (.agg (ec e).toArray) (.agg (ec f).toArray) (.bool (!decide (e = f))) := by
  refine .inr ⟨rfl, rfl, rfl, fun w => ?_⟩
  have u3 := Try.underlying3
  have a3 := Try.isAgg3
  have z3 := Try.sizeOf3
  have hS : Try.prog.underlying 43 = some (.struct (Try.prog.fieldsOf 43)) := by kernel_rfl
  have hp : Try.prog.stoodInHeld 43 = false := by kernel_rfl
  have hg : Try.prog.eqGuardType Try.prog.depth 43 = false := by kernel_rfl
  rw [Sem.run_bind, run_eqGuard_agg w _ _ _ _ _ _ hg, Result.andThen_ok, run_neq_struct, show (10000 : Nat) = 9999 + 1 from rfl, run_equalIn_agg w 9999 43 _ _ hS hp]
  simp only [Program.fieldsOf, Try.underlying43]
  obtain ⟨a, b, c⟩ := e
  obtain ⟨a', b', c'⟩ := f
  unfold ec
  go_simp
  by_cases h1 : a = a' <;> by_cases h2 : b = b' <;> by_cases h3 : c = c' <;> simp [h1, h2, h3]
/-! ### small checks -/



theorem node15 {s : AHeap} {n : Int} : ACall Try.prog 22 [.int .i64 n] s (.bool (decide (TP.Node n))) s := by
  unfold TP.Node
  (refine ACall.make Try.func22 rfl (by kernel_rfl) (by decide) rfl (fun N hN => ?_); have hT : Top N _ := hN; (repeat' (first | (apply Ab.K.ev; exact ev_) | (apply Ab.K.aops; first | (apply Xg.s; constructor) | (apply Ab.S.guardU; (case hd => rfl); (case hb => (exact ev_; done))) | apply Ab.S.guardG) | (apply Ab.K.aop; first | (apply Og.s; constructor)) | (apply Ab.K.gk; first | (apply Xg.s; constructor) | (apply Ab.gY; case hw => assumption) | (apply Ab.gNT; case hw => assumption) | (apply Ab.gNF; case hw => assumption) | ((first | apply Ab.gD | apply Ab.gDN); all_goals (intro _ _; (first | contradiction | (exfalso; omega) | skip)))) | (apply Ab.K.awp; first | (apply Xg.s; constructor)) | (apply Ab.K.at_; exact at_) | (apply Ab.K.acall; first | assumption | fail) | (apply Ab.Rg.mk; omega) | (apply Ab.Lt.mk; first | decide | (simp; done) | (simp; omega) | fail) | (apply Ab.Get.mk; first | rfl | fail) | (apply Ab.Nm.mk; first | exact nrm_) | (apply Xg.s; constructor) | (apply Ab.asm; assumption) | rfl | infer_instance | decide)); (all_goals ((first | apply RetQ.ret | apply RetQ.normal); (case he => exact evr_); (case hg => rfl))); (all_goals first | rfl | (apply Keeps.fr; (case h => exact fr_); (case hv => exact plR.nm rfl)) | (exact bdec (by grind))))
theorem node29 {s : AHeap} {n : Int} : ACall Try.prog 20 [.int .i64 n] s (.bool (decide (TP.Node n))) s := by
  unfold TP.Node
  (refine ACall.make Try.func20 rfl (by kernel_rfl) (by decide) rfl (fun N hN => ?_); have hT : Top N _ := hN; (repeat' (first | (apply Ab.K.ev; exact ev_) | (apply Ab.K.aops; first | (apply Xg.s; constructor) | (apply Ab.S.guardU; (case hd => rfl); (case hb => (exact ev_; done))) | apply Ab.S.guardG) | (apply Ab.K.aop; first | (apply Og.s; constructor)) | (apply Ab.K.gk; first | (apply Xg.s; constructor) | (apply Ab.gY; case hw => assumption) | (apply Ab.gNT; case hw => assumption) | (apply Ab.gNF; case hw => assumption) | ((first | apply Ab.gD | apply Ab.gDN); all_goals (intro _ _; (first | contradiction | (exfalso; omega) | skip)))) | (apply Ab.K.awp; first | (apply Xg.s; constructor)) | (apply Ab.K.at_; exact at_) | (apply Ab.K.acall; first | assumption | fail) | (apply Ab.Rg.mk; omega) | (apply Ab.Lt.mk; first | decide | (simp; done) | (simp; omega) | fail) | (apply Ab.Get.mk; first | rfl | fail) | (apply Ab.Nm.mk; first | exact nrm_) | (apply Xg.s; constructor) | (apply Ab.asm; assumption) | rfl | infer_instance | decide)); (all_goals ((first | apply RetQ.ret | apply RetQ.normal); (case he => exact evr_); (case hg => rfl))); (all_goals first | rfl | (apply Keeps.fr; (case h => exact fr_); (case hv => exact plR.nm rfl)) | (exact bdec (by grind))))
theorem isNaN54 {s : AHeap} {n : Int} : ACall Try.prog 63 [.int .i64 n] s (.bool false) s := by
  (refine ACall.make Try.func63 rfl (by kernel_rfl) (by decide) rfl (fun N hN => ?_); have hT : Top N _ := hN; (repeat' (first | (apply Ab.K.ev; exact ev_) | (apply Ab.K.aops; first | (apply Xg.s; constructor) | (apply Ab.S.guardU; (case hd => rfl); (case hb => (exact ev_; done))) | apply Ab.S.guardG) | (apply Ab.K.aop; first | (apply Og.s; constructor)) | (apply Ab.K.gk; first | (apply Xg.s; constructor) | (apply Ab.gY; case hw => assumption) | (apply Ab.gNT; case hw => assumption) | (apply Ab.gNF; case hw => assumption) | ((first | apply Ab.gD | apply Ab.gDN); all_goals (intro _ _; (first | contradiction | (exfalso; omega) | skip)))) | (apply Ab.K.awp; first | (apply Xg.s; constructor)) | (apply Ab.K.at_; exact at_) | (apply Ab.K.acall; first | assumption | fail) | (apply Ab.Rg.mk; omega) | (apply Ab.Lt.mk; first | decide | (simp; done) | (simp; omega) | fail) | (apply Ab.Get.mk; first | rfl | fail) | (apply Ab.Nm.mk; first | exact nrm_) | (apply Xg.s; constructor) | (apply Ab.asm; assumption) | rfl | infer_instance | decide)); (all_goals ((first | apply RetQ.ret | apply RetQ.normal); (case he => exact evr_); (case hg => rfl))); (all_goals first | rfl | (apply Keeps.fr; (case h => exact fr_); (case hv => exact plR.nm rfl)) | (simp only [resV]; congr 1; simp)))
def cmp3 (a b : Int) : Int := if a < b then -1 else if a > b then 1 else 0
theorem cmp49 {s : AHeap} {a b : Int} : ACall Try.prog 62 [.int .i64 a, .int .i64 b] s (.int .i64 (cmp3 a b)) s := by
  unfold cmp3
  by_cases h1 : a < b
  case' pos => rw [if_pos h1]
  case' neg =>
    rw [if_neg h1]
    by_cases h2 : a > b
    case' pos => rw [if_pos h2]
    case' neg => rw [if_neg h2]
  all_goals (refine ACall.make Try.func62 rfl (by kernel_rfl) (by decide) rfl (fun N hN => ?_); have hT : Top N _ := hN; (repeat' (first | (apply Ab.K.ev; exact ev_) | (apply Ab.K.aops; first | (apply Xg.s; constructor) | (apply Ab.S.guardU; (case hd => rfl); (case hb => (exact ev_; done))) | apply Ab.S.guardG) | (apply Ab.K.aop; first | (apply Og.s; constructor)) | (apply Ab.K.gk; first | (apply Xg.s; constructor) | (apply Ab.gY; case hw => assumption) | (apply Ab.gNT; case hw => assumption) | (apply Ab.gNF; case hw => assumption) | ((first | apply Ab.gD | apply Ab.gDN); all_goals (intro _ _; (first | contradiction | (exfalso; omega) | skip)))) | (apply Ab.K.awp; first | (apply Xg.s; constructor)) | (apply Ab.K.at_; exact at_) | (apply Ab.K.acall; first | assumption | exact isNaN54) | (apply Ab.Rg.mk; omega) | (apply Ab.Lt.mk; first | decide | (simp; done) | (simp; omega) | fail) | (apply Ab.Get.mk; first | rfl | fail) | (apply Ab.Nm.mk; first | exact nrm_) | (apply Xg.s; constructor) | (apply Ab.asm; assumption) | rfl | infer_instance | decide)); (all_goals ((first | apply RetQ.ret | apply RetQ.normal); (case he => exact evr_); (case hg => rfl))); (all_goals first | rfl | (apply Keeps.fr; (case h => exact fr_); (case hv => exact plR.nm rfl)) | (simp only [resV]; congr 1; simp)))


def mayE (e : E) : Int := if e.may then 0 else 1
theorem may_y {e : E} (h : e.may) : mayE e = 0 := if_pos h
theorem may_n {e : E} (h : ¬ e.may) : mayE e = 1 := if_neg h
theorem check51 {s : AHeap} {e : E} : ACall Try.prog 58 [.agg (ec e).toArray] s (.int .i64 (mayE e)) s := by
  obtain ⟨a, b, w⟩ := e
  (refine ACall.make Try.func58 rfl (by kernel_rfl) (by decide) rfl (fun N hN => ?_); have hT : Top N _ := hN; (repeat' (first | (apply Ab.K.ev; exact ev_) | (apply Ab.K.aops; first | (apply Xg.s; constructor) | (apply Ab.S.guardU; (case hd => rfl); (case hb => (exact ev_; done))) | apply Ab.S.guardG) | (apply Ab.K.aop; first | (apply Ab.O.boxA (N + 0); (case hx => exact ev_); (case hid => exact frees_)) | (apply Og.s; constructor)) | (apply Ab.K.gk; first | (apply Xg.s; constructor) | (apply Ab.gY; case hw => assumption) | (apply Ab.gNT; case hw => assumption) | (apply Ab.gNF; case hw => assumption) | ((first | apply Ab.gD | apply Ab.gDN); all_goals (intro _ _; (first | contradiction | (exfalso; omega) | skip)))) | (apply Ab.K.awp; first | (apply Xg.s; constructor)) | (apply Ab.K.at_; exact at_) | (apply Ab.K.acall; first | assumption | first | exact node15 | exact node29) | (apply Ab.Rg.mk; omega) | (apply Ab.Lt.mk; first | decide | (simp; done) | (simp; omega) | fail) | (apply Ab.Get.mk; first | rfl | fail) | (apply Ab.Nm.mk; first | exact nrm_) | (apply Xg.s; constructor) | (apply Ab.asm; assumption) | rfl | infer_instance | decide)); (all_goals ((first | apply RetQ.ret | apply RetQ.normal); (case he => exact evr_); (case hg => rfl))); (all_goals first | rfl | (apply Keeps.fr; (case h => exact fr_); (case hv => exact plR.nm rfl)) | (first | exact congrArg (Value.int .i64) (may_y (by unfold E.may; grind)).symm | exact congrArg (Value.int .i64) (may_n (by unfold E.may; grind)).symm)))
/-- An edge's other end. -/
def other (e : E) (n : Int) : Int := if e.a = n then e.b else if e.b = n then e.a else 0
theorem other36 {s : AHeap} {e : E} {n : Int} : ACall Try.prog 40 [.agg (ec e).toArray, .int .i64 n] s (.int .i64 (other e n)) s := by
  have hq : ∀ x y, ABin Try.prog .eql 43 x y (.agg (ec e).toArray) (.agg #[.int .i64 n, .int .i64 e.b, .int .i64 e.w]) (.bool (decide (e = ⟨n, e.b, e.w⟩))) := fun x y => eq32 (f := ⟨n, e.b, e.w⟩)
  obtain ⟨a, b, w⟩ := e
  unfold other
  simp only [ec, E.mk.injEq, and_true] at *
  by_cases h1 : a = n
  · rw [if_pos h1]
    (refine ACall.make Try.func40 rfl (by kernel_rfl) (by decide) rfl (fun N hN => ?_); have hT : Top N _ := hN; (repeat' (first | (apply Ab.K.ev; exact ev_) | (apply Ab.K.aops; first | (apply Xg.s; constructor) | (apply Ab.S.guardU; (case hd => rfl); (case hb => (exact ev_; done))) | apply Ab.S.guardG) | (apply Ab.K.aop; first | (first | (apply Ab.O.boxA (N + 0); (case hx => exact ev_); (case hid => exact frees_)) | (apply Ab.O.bin; (case hx => exact ev_); (case hy => exact ev_); (case hv => exact hq _ _))) | (apply Og.s; constructor)) | (apply Ab.K.gk; first | (apply Xg.s; constructor) | (apply Ab.gY; case hw => assumption) | (apply Ab.gNT; case hw => assumption) | (apply Ab.gNF; case hw => assumption) | ((first | apply Ab.gD | apply Ab.gDN); all_goals (intro _ _; (first | contradiction | (exfalso; omega) | skip)))) | (apply Ab.K.awp; first | (apply Xg.s; constructor)) | (apply Ab.K.at_; exact at_) | (apply Ab.K.acall; first | assumption | first | exact node15 | exact node29) | (apply Ab.Rg.mk; omega) | (apply Ab.Lt.mk; first | decide | (simp; done) | (simp; omega) | fail) | (apply Ab.Get.mk; first | rfl | fail) | (apply Ab.Nm.mk; first | exact nrm_) | (apply Xg.s; constructor) | (apply Ab.asm; assumption) | rfl | infer_instance | decide)); (all_goals ((first | apply RetQ.ret | apply RetQ.normal); (case he => exact evr_); (case hg => rfl))); (all_goals first | rfl | (apply Keeps.fr; (case h => exact fr_); (case hv => exact plR.nm rfl)) | fail))
  · rw [if_neg h1]
    by_cases h2 : b = n
    · rw [if_pos h2]
      (refine ACall.make Try.func40 rfl (by kernel_rfl) (by decide) rfl (fun N hN => ?_); have hT : Top N _ := hN; (repeat' (first | (apply Ab.K.ev; exact ev_) | (apply Ab.K.aops; first | (apply Xg.s; constructor) | (apply Ab.S.guardU; (case hd => rfl); (case hb => (exact ev_; done))) | apply Ab.S.guardG) | (apply Ab.K.aop; first | (first | (apply Ab.O.boxA (N + 0); (case hx => exact ev_); (case hid => exact frees_)) | (apply Ab.O.bin; (case hx => exact ev_); (case hy => exact ev_); (case hv => exact hq _ _))) | (apply Og.s; constructor)) | (apply Ab.K.gk; first | (apply Xg.s; constructor) | (apply Ab.gY; case hw => assumption) | (apply Ab.gNT; case hw => assumption) | (apply Ab.gNF; case hw => assumption) | ((first | apply Ab.gD | apply Ab.gDN); all_goals (intro _ _; (first | contradiction | (exfalso; omega) | skip)))) | (apply Ab.K.awp; first | (apply Xg.s; constructor)) | (apply Ab.K.at_; exact at_) | (apply Ab.K.acall; first | assumption | first | exact node15 | exact node29) | (apply Ab.Rg.mk; omega) | (apply Ab.Lt.mk; first | decide | (simp; done) | (simp; omega) | fail) | (apply Ab.Get.mk; first | rfl | fail) | (apply Ab.Nm.mk; first | exact nrm_) | (apply Xg.s; constructor) | (apply Ab.asm; assumption) | rfl | infer_instance | decide)); (all_goals ((first | apply RetQ.ret | apply RetQ.normal); (case he => exact evr_); (case hg => rfl))); (all_goals first | rfl | (apply Keeps.fr; (case h => exact fr_); (case hv => exact plR.nm rfl)) | fail))
    · rw [if_neg h2]
      (refine ACall.make Try.func40 rfl (by kernel_rfl) (by decide) rfl (fun N hN => ?_); have hT : Top N _ := hN; (repeat' (first | (apply Ab.K.ev; exact ev_) | (apply Ab.K.aops; first | (apply Xg.s; constructor) | (apply Ab.S.guardU; (case hd => rfl); (case hb => (exact ev_; done))) | apply Ab.S.guardG) | (apply Ab.K.aop; first | (first | (apply Ab.O.boxA (N + 0); (case hx => exact ev_); (case hid => exact frees_)) | (apply Ab.O.bin; (case hx => exact ev_); (case hy => exact ev_); (case hv => exact hq _ _))) | (apply Og.s; constructor)) | (apply Ab.K.gk; first | (apply Xg.s; constructor) | (apply Ab.gY; case hw => assumption) | (apply Ab.gNT; case hw => assumption) | (apply Ab.gNF; case hw => assumption) | ((first | apply Ab.gD | apply Ab.gDN); all_goals (intro _ _; (first | contradiction | (exfalso; omega) | skip)))) | (apply Ab.K.awp; first | (apply Xg.s; constructor)) | (apply Ab.K.at_; exact at_) | (apply Ab.K.acall; first | assumption | first | exact node15 | exact node29) | (apply Ab.Rg.mk; omega) | (apply Ab.Lt.mk; first | decide | (simp; done) | (simp; omega) | fail) | (apply Ab.Get.mk; first | rfl | fail) | (apply Ab.Nm.mk; first | exact nrm_) | (apply Xg.s; constructor) | (apply Ab.asm; assumption) | rfl | infer_instance | decide)); (all_goals ((first | apply RetQ.ret | apply RetQ.normal); (case he => exact evr_); (case hg => rfl))); (all_goals first | rfl | (apply Keeps.fr; (case h => exact fr_); (case hv => exact plR.nm rfl)) | fail))

end Go.Proofs.Ytdbnpghckgmaoaa

/- trees: comparing, lists alike, edges in memory, who is reached. -/
namespace Go.Proofs.Ytdbnpghckgmaoaa
set_option linter.unusedVariables false
set_option linter.unusedSimpArgs false
set_option linter.unusedSectionVars false
open Go.RowKit Ab TP
attribute [local irreducible] AOps AOpsD AOp AWp put nargs AHeap.set At Free ACall thenQ blockQ roundQ RetQ Src
/-! ### the order of edges -/
def or3 (a b c : Int) : Int := if a ≠ 0 then a else if b ≠ 0 then b else c
theorem or48 {s : AHeap} {q : Nat} {a b c : Int} (hq : At s q (.cells true 1 [.int .i64 a, .int .i64 b, .int .i64 c])) : ACall Try.prog 61 [.slice (some ⟨q, 0, none⟩) 3 3] s (.int .i64 (or3 a b c)) s := by
  unfold or3
  refine ACall.make Try.func61 rfl (by kernel_rfl) (by decide) rfl (fun N hN => ?_)
  (repeat' (first | (apply Ab.K.ev; exact ev_) | (apply Ab.K.aops; first | (apply Xg.s; constructor) | apply Ab.S.guardG) | (apply Ab.K.aop; first | (apply Og.s; constructor)) | (apply Ab.K.gk; first | (apply Xg.s; constructor) | (apply Ab.gY; case hw => assumption) | (apply Ab.gNT; case hw => assumption) | (apply Ab.gNF; case hw => assumption) | ((first | apply Ab.gD | apply Ab.gDN); all_goals (intro _ _; (first | contradiction | (exfalso; omega) | skip)))) | (apply Ab.K.awp; first | (apply Xg.s; constructor)) | (apply Ab.K.at_; exact at_) | (apply Ab.K.acall; first | assumption | fail) | (apply Ab.Rg.mk; omega) | (apply Ab.Lt.mk; first | decide | (simp; done) | (simp; omega) | fail) | (apply Ab.Get.mk; first | rfl | fail) | (apply Ab.Nm.mk; first | exact nrm_) | (apply Xg.s; constructor) | (apply Ab.asm; assumption) | rfl | infer_instance | decide))
  refine AWp.loop (fun kk tm s1 => ∃ i : Nat, Ev tm (.tmp 3) (.int .i64 0) ∧ Ev tm (.tmp 6) (.slice (some ⟨q, 0, none⟩) 3 3) ∧ Ev tm (.tmp 7) (.int .i64 (3 : Nat)) ∧ Ev tm (.tmp 8) (.int .i64 i) ∧ s1 = s ∧ i ≤ 3 ∧ (1 ≤ i → a = 0) ∧ (2 ≤ i → b = 0) ∧ (3 ≤ i → c = 0) ∧ kk = 3 - i) 3 ?_ ?_
  · exact ⟨0, by exact ev_, by exact ev_, by exact ev_, by exact ev_, rfl, by omega, by omega, by omega, by omega, rfl⟩
  · rintro k tm s1 ⟨i, e3, e6, e7, e8, rfl, hi, ha, hb, hc, hk⟩
    rcases (show i = 0 ∨ i = 1 ∨ i = 2 ∨ i = 3 by omega) with rfl | rfl | rfl | rfl
    · by_cases h : a = 0
      · (repeat' (first | (apply Ab.K.ev; exact ev_) | (apply Ab.K.aops; first | (apply Xg.s; constructor) | apply Ab.S.guardG) | (apply Ab.K.aop; first | (apply Og.s; constructor)) | (apply Ab.K.gk; first | (apply Xg.s; constructor) | (apply Ab.gY; case hw => assumption) | (apply Ab.gNT; case hw => assumption) | (apply Ab.gNF; case hw => assumption) | ((first | apply Ab.gD | apply Ab.gDN); all_goals (intro _ _; (first | contradiction | (exfalso; omega) | skip)))) | (apply Ab.K.awp; first | (apply Xg.s; constructor)) | (apply Ab.K.at_; exact at_) | (apply Ab.K.acall; first | assumption | fail) | (apply Ab.Rg.mk; omega) | (apply Ab.Lt.mk; first | decide | (simp; done) | (simp; omega) | fail) | (apply Ab.Get.mk; first | rfl | fail) | (apply Ab.Nm.mk; first | exact nrm_) | (apply Xg.s; constructor) | (apply Ab.asm; assumption) | rfl | infer_instance | decide))
        exact X.roundN (3 - (0 + 1)) (by omega) ⟨0 + 1, by exact ev_, by exact ev_, by exact ev_, by exact ev_, rfl, by omega, fun _ => h, by omega, by omega, rfl⟩
      · rw [if_pos h]
        (repeat' (first | (apply Ab.K.ev; exact ev_) | (apply Ab.K.aops; first | (apply Xg.s; constructor) | apply Ab.S.guardG) | (apply Ab.K.aop; first | (apply Og.s; constructor)) | (apply Ab.K.gk; first | (apply Xg.s; constructor) | (apply Ab.gY; case hw => assumption) | (apply Ab.gNT; case hw => assumption) | (apply Ab.gNF; case hw => assumption) | ((first | apply Ab.gD | apply Ab.gDN); all_goals (intro _ _; (first | contradiction | (exfalso; omega) | skip)))) | (apply Ab.K.awp; first | (apply Xg.s; constructor)) | (apply Ab.K.at_; exact at_) | (apply Ab.K.acall; first | assumption | fail) | (apply Ab.Rg.mk; omega) | (apply Ab.Lt.mk; first | decide | (simp; done) | (simp; omega) | fail) | (apply Ab.Get.mk; first | rfl | fail) | (apply Ab.Nm.mk; first | exact nrm_) | (apply Xg.s; constructor) | (apply Ab.asm; assumption) | rfl | infer_instance | decide))
        all_goals ((first | apply RetQ.ret | apply RetQ.normal); (case he => exact evr_); (case hg => rfl))
        all_goals first | rfl | exact Keeps.self trivial
    · rw [if_neg (fun x => x (ha (by omega)))]
      by_cases h : b = 0
      · (repeat' (first | (apply Ab.K.ev; exact ev_) | (apply Ab.K.aops; first | (apply Xg.s; constructor) | apply Ab.S.guardG) | (apply Ab.K.aop; first | (apply Og.s; constructor)) | (apply Ab.K.gk; first | (apply Xg.s; constructor) | (apply Ab.gY; case hw => assumption) | (apply Ab.gNT; case hw => assumption) | (apply Ab.gNF; case hw => assumption) | ((first | apply Ab.gD | apply Ab.gDN); all_goals (intro _ _; (first | contradiction | (exfalso; omega) | skip)))) | (apply Ab.K.awp; first | (apply Xg.s; constructor)) | (apply Ab.K.at_; exact at_) | (apply Ab.K.acall; first | assumption | fail) | (apply Ab.Rg.mk; omega) | (apply Ab.Lt.mk; first | decide | (simp; done) | (simp; omega) | fail) | (apply Ab.Get.mk; first | rfl | fail) | (apply Ab.Nm.mk; first | exact nrm_) | (apply Xg.s; constructor) | (apply Ab.asm; assumption) | rfl | infer_instance | decide))
        exact X.roundN (3 - (1 + 1)) (by omega) ⟨1 + 1, by exact ev_, by exact ev_, by exact ev_, by exact ev_, rfl, by omega, fun _ => ha (by omega), fun _ => h, by omega, rfl⟩
      · rw [if_pos h]
        (repeat' (first | (apply Ab.K.ev; exact ev_) | (apply Ab.K.aops; first | (apply Xg.s; constructor) | apply Ab.S.guardG) | (apply Ab.K.aop; first | (apply Og.s; constructor)) | (apply Ab.K.gk; first | (apply Xg.s; constructor) | (apply Ab.gY; case hw => assumption) | (apply Ab.gNT; case hw => assumption) | (apply Ab.gNF; case hw => assumption) | ((first | apply Ab.gD | apply Ab.gDN); all_goals (intro _ _; (first | contradiction | (exfalso; omega) | skip)))) | (apply Ab.K.awp; first | (apply Xg.s; constructor)) | (apply Ab.K.at_; exact at_) | (apply Ab.K.acall; first | assumption | fail) | (apply Ab.Rg.mk; omega) | (apply Ab.Lt.mk; first | decide | (simp; done) | (simp; omega) | fail) | (apply Ab.Get.mk; first | rfl | fail) | (apply Ab.Nm.mk; first | exact nrm_) | (apply Xg.s; constructor) | (apply Ab.asm; assumption) | rfl | infer_instance | decide))
        all_goals ((first | apply RetQ.ret | apply RetQ.normal); (case he => exact evr_); (case hg => rfl))
        all_goals first | rfl | exact Keeps.self trivial
    · rw [if_neg (fun x => x (ha (by omega))), if_neg (fun x => x (hb (by omega)))]
      by_cases h : c = 0
      · (repeat' (first | (apply Ab.K.ev; exact ev_) | (apply Ab.K.aops; first | (apply Xg.s; constructor) | apply Ab.S.guardG) | (apply Ab.K.aop; first | (apply Og.s; constructor)) | (apply Ab.K.gk; first | (apply Xg.s; constructor) | (apply Ab.gY; case hw => assumption) | (apply Ab.gNT; case hw => assumption) | (apply Ab.gNF; case hw => assumption) | ((first | apply Ab.gD | apply Ab.gDN); all_goals (intro _ _; (first | contradiction | (exfalso; omega) | skip)))) | (apply Ab.K.awp; first | (apply Xg.s; constructor)) | (apply Ab.K.at_; exact at_) | (apply Ab.K.acall; first | assumption | fail) | (apply Ab.Rg.mk; omega) | (apply Ab.Lt.mk; first | decide | (simp; done) | (simp; omega) | fail) | (apply Ab.Get.mk; first | rfl | fail) | (apply Ab.Nm.mk; first | exact nrm_) | (apply Xg.s; constructor) | (apply Ab.asm; assumption) | rfl | infer_instance | decide))
        exact X.roundN (3 - (2 + 1)) (by omega) ⟨2 + 1, by exact ev_, by exact ev_, by exact ev_, by exact ev_, rfl, by omega, fun _ => ha (by omega), fun _ => hb (by omega), fun _ => h, rfl⟩
      · (repeat' (first | (apply Ab.K.ev; exact ev_) | (apply Ab.K.aops; first | (apply Xg.s; constructor) | apply Ab.S.guardG) | (apply Ab.K.aop; first | (apply Og.s; constructor)) | (apply Ab.K.gk; first | (apply Xg.s; constructor) | (apply Ab.gY; case hw => assumption) | (apply Ab.gNT; case hw => assumption) | (apply Ab.gNF; case hw => assumption) | ((first | apply Ab.gD | apply Ab.gDN); all_goals (intro _ _; (first | contradiction | (exfalso; omega) | skip)))) | (apply Ab.K.awp; first | (apply Xg.s; constructor)) | (apply Ab.K.at_; exact at_) | (apply Ab.K.acall; first | assumption | fail) | (apply Ab.Rg.mk; omega) | (apply Ab.Lt.mk; first | decide | (simp; done) | (simp; omega) | fail) | (apply Ab.Get.mk; first | rfl | fail) | (apply Ab.Nm.mk; first | exact nrm_) | (apply Xg.s; constructor) | (apply Ab.asm; assumption) | rfl | infer_instance | decide))
        all_goals ((first | apply RetQ.ret | apply RetQ.normal); (case he => exact evr_); (case hg => rfl))
        all_goals first | rfl | exact Keeps.self trivial
    · rw [if_neg (fun x => x (ha (by omega))), if_neg (fun x => x (hb (by omega))), hc (by omega)]
      (repeat' (first | (apply Ab.K.ev; exact ev_) | (apply Ab.K.aops; first | (apply Xg.s; constructor) | apply Ab.S.guardG) | (apply Ab.K.aop; first | (apply Og.s; constructor)) | (apply Ab.K.gk; first | (apply Xg.s; constructor) | (apply Ab.gY; case hw => assumption) | (apply Ab.gNT; case hw => assumption) | (apply Ab.gNF; case hw => assumption) | ((first | apply Ab.gD | apply Ab.gDN); all_goals (intro _ _; (first | contradiction | (exfalso; omega) | skip)))) | (apply Ab.K.awp; first | (apply Xg.s; constructor)) | (apply Ab.K.at_; exact at_) | (apply Ab.K.acall; first | assumption | fail) | (apply Ab.Rg.mk; omega) | (apply Ab.Lt.mk; first | decide | (simp; done) | (simp; omega) | fail) | (apply Ab.Get.mk; first | rfl | fail) | (apply Ab.Nm.mk; first | exact nrm_) | (apply Xg.s; constructor) | (apply Ab.asm; assumption) | rfl | infer_instance | decide))
      all_goals ((first | apply RetQ.ret | apply RetQ.normal); (case he => exact evr_); (case hg => rfl))
      all_goals first | rfl | exact Keeps.self trivial
def ord (e f : E) : Int := or3 (cmp3 e.w f.w) (cmp3 e.a f.a) (cmp3 e.b f.b)
theorem ord_pos {e f : E} : 0 < ord e f ↔ less f e := by unfold ord or3 cmp3 less; grind


/-! ### edges in memory -/
inductive EA (s : AHeap) : Value → Option Nat → List E → Prop
  | nil : EA s (.slice none 0 0) none []
  | blk {q c : Nat} {rw : Bool} {cs : List Value} {l : List E} (h : At s q (.cells rw 3 cs)) (hn : l.length ≤ c) (hx : cs.take (l.length * 3) = ecs l) : EA s (.slice (some ⟨q, 0, none⟩) l.length c) (some q) l
namespace EA
variable {s s' : AHeap} {v : Value} {on : Option Nat} {l : List E}
theorem isl (h : EA s v on l) : ∃ A c, v = .slice A l.length c := by
  cases h with
  | nil => exact ⟨_, _, rfl⟩
  | blk => exact ⟨_, _, rfl⟩
theorem of_at (h : EA s v on l) (hs : ∀ o, on = some o → s' o = s o) : EA s' v on l := by
  cases h with
  | nil => exact .nil
  | blk h a b => exact .blk (by unfold At; rw [hs _ rfl]; exact h.eq) a b
theorem lt {M : Nat} (h : EA s v on l) (hT : Top M s) : ∀ o, on = some o → o < M := by
  cases h with
  | nil => intro o e; cases e
  | blk h a b => intro o e; obtain rfl := Option.some.inj e; exact hT.lt h
theorem elt {A : Option Addr} {c n : Nat} (h : EA s (.slice A n c) on l) {i : Nat} {e : E} (hi : l[i]? = some e) : ∃ q rw cs, A = some ⟨q, 0, none⟩ ∧ on = some q ∧ n = l.length ∧ At s q (.cells rw 3 cs) ∧ i * 3 + 3 ≤ cs.length ∧ (cs.drop (i * 3)).take 3 = ec e ∧
    cs[i * 3]? = some (.int .i64 e.a) ∧ cs[i * 3 + 1]? = some (.int .i64 e.b) ∧ cs[i * 3 + 2]? = some (.int .i64 e.w) := by
  cases h with
  | nil => simp at hi
  | @blk q _ rw cs _ h a b =>
    have hlt := (List.getElem?_eq_some_iff.1 hi).1
    have hlen : l.length * 3 ≤ cs.length := by
      have := congrArg List.length b
      rw [List.length_take, ecs_length] at this
      omega
    have hc : ∀ j, j < 3 → cs[i * 3 + j]? = (ec e)[j]? := fun j hj => by
      rw [← ecs_cell hi j hj, ← b, List.getElem?_take, if_pos (by omega)]
    refine ⟨q, rw, cs, rfl, rfl, rfl, h, by omega, ?_, hc 0 (by omega), hc 1 (by omega), hc 2 (by omega)⟩
    rw [← ecs_get hi, ← b]
    apply List.ext_getElem?
    intro j
    rw [List.getElem?_take, List.getElem?_take, List.getElem?_drop, List.getElem?_drop, List.getElem?_take]
    split
    · rw [if_pos (by omega)]
    · rfl
end EA
/-! ### rows of truths -/
def bsn (n : Nat) (f : Nat → Bool) : List Value := (List.range n).map fun i => .bool (f i)
theorem bsn_length {n : Nat} {f : Nat → Bool} : (bsn n f).length = n := by simp [bsn]
theorem bsn_pl {n : Nat} {f : Nat → Bool} : (bsn n f).all pl1 = true := by simp [bsn, pl1, plA]
theorem bsn_get {n : Nat} {f : Nat → Bool} {i : Nat} (h : i < n) : (bsn n f)[i]? = some (.bool (f i)) := by simp [bsn, h]
theorem bsn_set {n : Nat} {f : Nat → Bool} {i : Nat} (h : i < n) : (bsn n f).set i (.bool true) = bsn n (fun j => decide (j = i) || f j) := by
  apply List.ext_getElem?
  intro j
  rw [List.getElem?_set]
  by_cases hj : i = j
  · subst hj; simp [bsn, h]
  · rw [if_neg hj]
    by_cases hjn : j < n
    · simp [bsn, hjn, Ne.symm hj]
    · simp [bsn, hjn]
theorem bsn_congr {n : Nat} {f f' : Nat → Bool} (h : ∀ i, i < n → f i = f' i) : bsn n f = bsn n f' := by
  unfold bsn
  exact List.map_congr_left fun i hi => by rw [h i (List.mem_range.1 hi)]
instance td51 : HasTD Try.prog 58 ⟨.array 65 4, 65, 65, .agg (bsn 65 fun _ => false).toArray⟩ := ⟨by kernel_rfl⟩
/-! ### lists alike -/
inductive NA (s : AHeap) : Value → Option Nat → List Int → Prop
  | nil : NA s (.slice none 0 0) none []
  | blk {q c : Nat} {rw : Bool} {cs : List Value} {l : List Int} (h : At s q (.cells rw 1 cs)) (hn : l.length ≤ c) (hx : cs.take l.length = ints l) : NA s (.slice (some ⟨q, 0, none⟩) l.length c) (some q) l
namespace NA
variable {s s' : AHeap} {v : Value} {on : Option Nat} {l : List Int}
theorem isl (h : NA s v on l) : ∃ A c, v = .slice A l.length c := by
  cases h with
  | nil => exact ⟨_, _, rfl⟩
  | blk => exact ⟨_, _, rfl⟩
theorem of_at (h : NA s v on l) (hs : ∀ o, on = some o → s' o = s o) : NA s' v on l := by
  cases h with
  | nil => exact .nil
  | blk h a b => exact .blk (by unfold At; rw [hs _ rfl]; exact h.eq) a b
theorem lt {M : Nat} (h : NA s v on l) (hT : Top M s) : ∀ o, on = some o → o < M := by
  cases h with
  | nil => intro o e; cases e
  | blk h a b => intro o e; obtain rfl := Option.some.inj e; exact hT.lt h
theorem elt {A : Option Addr} {c n : Nat} (h : NA s (.slice A n c) on l) {i : Nat} {x : Int} (hi : l[i]? = some x) : ∃ q rw cs, A = some ⟨q, 0, none⟩ ∧ on = some q ∧ n = l.length ∧ At s q (.cells rw 1 cs) ∧ cs[i]? = some (.int .i64 x) := by
  cases h with
  | nil => simp at hi
  | @blk q _ rw cs _ h a b =>
    have hlt := (List.getElem?_eq_some_iff.1 hi).1
    refine ⟨q, rw, cs, rfl, rfl, rfl, h, ?_⟩
    have := ints_get hi
    rw [← b, List.getElem?_take, if_pos hlt] at this
    exact this
end NA

theorem ints_take {p : List Int} {j : Nat} {y : Int} (h : p[j]? = some y) : ints (p.take (j + 1)) = ints (p.take j) ++ [.int .i64 y] := by
  rw [List.take_add_one, h, ints_append]; rfl
end Go.Proofs.Ytdbnpghckgmaoaa

/- trees: the document's reach and links. -/
namespace Go.Proofs.Ytdbnpghckgmaoaa
set_option linter.unusedVariables false
set_option linter.unusedSimpArgs false
set_option linter.unusedSectionVars false
open Go.RowKit Ab TP
attribute [local irreducible] AOps AOpsD AOp AWp put nargs AHeap.set At Free ACall thenQ blockQ roundQ RetQ Src
theorem EA.fr {s s1 : AHeap} {v : Value} {on : Option Nat} {l : List E} (h : EA s v on l) (F : Fr s1 s []) : EA s1 v on l := by
  cases h with
  | nil => exact .nil
  | blk h a b => exact .blk (At.var (F _ (by simp) _ h.eq)) a b
theorem NA.fr {s s1 : AHeap} {v : Value} {on : Option Nat} {l : List Int} (h : NA s v on l) (F : Fr s1 s []) : NA s1 v on l := by
  cases h with
  | nil => exact .nil
  | blk h a b => exact .blk (At.var (F _ (by simp) _ h.eq)) a b
theorem bsn_plR {n : Nat} {f : Nat → Bool} : plR (.agg (bsn n f).toArray) = true := by
  have := bsn_pl (n := n) (f := f)
  simpa [plR, plB] using this
attribute [local irreducible] bsn



theorem reach27 {s : AHeap} {A : Option Addr} {n c : Nat} {on : Option Nat} {l : List E} {a : Int} (h : EA s (.slice A n c) on l) (hl : ∀ e ∈ l, TP.Node e.a ∧ TP.Node e.b) (hn : n < 4611686018427387904) :
    ACall Try.prog 30 [.slice A n c, .int .i64 a] s (.agg (bsn 65 (reachB l a)).toArray) s := by
  have hnl : n = l.length := by obtain ⟨_, _, e⟩ := h.isl; injection e
  refine ACall.make Try.func30 rfl (by kernel_rfl) (by decide) rfl (fun N hN => ?_)
  have hT : Top N s := hN
  by_cases ha : TP.Node a
  · have ha' : 1 ≤ a ∧ a ≤ 64 := ha

    (repeat' (first | (apply Ab.K.ev; exact ev_) | (apply Ab.K.aops; first | (apply Xg.s; constructor) | (apply Ab.S.guardU; (case hd => rfl); (case hb => (exact ev_; done))) | apply Ab.S.guardG) | (apply Ab.K.aop; first | (first | (apply Ab.O.allocA (l := bsn 65 fun _ => false) (N + 0); (case hid => exact frees_); (case hp => exact bsn_pl)) | (apply Ab.O.allocA (l := bsn 65 fun _ => false) (N + 1); (case hid => exact frees_); (case hp => exact bsn_pl)) | (apply Ab.Qz.br; (case hz => exact bsn_pl)) | (apply Ab.O.storeAll; (case hz => rfl); (case hx => exact ev_); (case hy => exact ev_); (case hs => exact at_); (case hl => exact bsn_length); (case hc => exact bsn_length)) | (apply Ab.O.loadAll; (case ha => rfl); (case hx => exact ev_); (case hs => exact at_); (case hl => exact bsn_length))) | (apply Og.s; constructor)) | (apply Ab.K.gk; first | (apply Xg.s; constructor) | (apply Ab.gY; case hw => assumption) | (apply Ab.gNT; case hw => assumption) | (apply Ab.gNF; case hw => assumption) | ((first | apply Ab.gD | apply Ab.gDN); all_goals (intro _ _; (first | contradiction | (exfalso; omega) | skip)))) | (apply Ab.K.awp; first | (apply Xg.s; constructor)) | (apply Ab.K.at_; exact at_) | (apply Ab.K.acall; first | assumption | exact node15) | (apply Ab.Rg.mk; omega) | (apply Ab.Lt.mk; first | decide | (simp; done) | (simp; omega) | (rw [bsn_length]; omega)) | (apply Ab.Get.mk; first | rfl | fail) | (apply Ab.Nm.mk; first | exact bsn_set (by omega) | exact nrm_) | (apply Xg.s; constructor) | (apply Ab.asm; assumption) | rfl | infer_instance | decide))
    refine AWp.loop (fun kk tm s1 => ∃ (j : Nat) (r : Nat → Bool), Ev tm (.tmp 0) (.slice A n c) ∧ Ev tm (.tmp 4) (.pointer (some ⟨N + 0, 0, none⟩)) ∧ Ev tm (.tmp 5) (.pointer (some ⟨N + 1, 0, none⟩)) ∧ Ev tm (.tmp 6) (.int .i64 j) ∧ At s1 (N + 0) (.cells true 1 (bsn 65 fun _ => false)) ∧ At s1 (N + 1) (.cells true 1 (bsn 65 r)) ∧ Fr s1 s [] ∧ Rnd l a j r ∧ j ≤ 64 ∧ kk = 64 - j) 64 ?_ ?_
    · refine ⟨0, fun j => decide (j = a.toNat) || false, by exact ev_, by exact ev_, by exact ev_, by exact ev_, by exact at_, by exact at_, by exact fr_, Rnd.start ha (fun i => ?_), by omega, rfl⟩
      simp; omega
    · rintro kk tm s1 ⟨j, r, e0, e4, e5, e6, a4, a5, F, R, hj, hkk⟩
      by_cases hlt : j < 64
      · (repeat' (first | (apply Ab.K.ev; exact ev_) | (apply Ab.K.aops; first | (apply Xg.s; constructor) | (apply Ab.S.guardU; (case hd => rfl); (case hb => (exact ev_; done))) | apply Ab.S.guardG) | (apply Ab.K.aop; first | (first | (apply Ab.O.allocA (l := bsn 65 fun _ => false) (N + 0); (case hid => exact frees_); (case hp => exact bsn_pl)) | (apply Ab.O.allocA (l := bsn 65 fun _ => false) (N + 1); (case hid => exact frees_); (case hp => exact bsn_pl)) | (apply Ab.Qz.br; (case hz => exact bsn_pl)) | (apply Ab.O.storeAll; (case hz => rfl); (case hx => exact ev_); (case hy => exact ev_); (case hs => exact at_); (case hl => exact bsn_length); (case hc => exact bsn_length)) | (apply Ab.O.loadAll; (case ha => rfl); (case hx => exact ev_); (case hs => exact at_); (case hl => exact bsn_length))) | (apply Og.s; constructor)) | (apply Ab.K.gk; first | (apply Xg.s; constructor) | (apply Ab.gY; case hw => assumption) | (apply Ab.gNT; case hw => assumption) | (apply Ab.gNF; case hw => assumption) | ((first | apply Ab.gD | apply Ab.gDN); all_goals (intro _ _; (first | contradiction | (exfalso; omega) | skip)))) | (apply Ab.K.awp; first | (apply Xg.s; constructor)) | (apply Ab.K.at_; exact at_) | (apply Ab.K.acall; first | assumption | exact node15) | (apply Ab.Rg.mk; omega) | (apply Ab.Lt.mk; first | decide | (simp; done) | (simp; omega) | (rw [bsn_length]; omega)) | (apply Ab.Get.mk; first | rfl | fail) | (apply Ab.Nm.mk; first | exact bsn_set (by omega) | exact nrm_) | (apply Xg.s; constructor) | (apply Ab.asm; assumption) | rfl | infer_instance | decide))
        refine AWp.loop (fun k2 tm s1 => ∃ (i : Nat) (r : Nat → Bool), Ev tm (.tmp 0) (.slice A n c) ∧ Ev tm (.tmp 4) (.pointer (some ⟨N + 0, 0, none⟩)) ∧ Ev tm (.tmp 5) (.pointer (some ⟨N + 1, 0, none⟩)) ∧ Ev tm (.tmp 6) (.int .i64 j) ∧ Ev tm (.tmp 7) (.int .i64 i) ∧ At s1 (N + 0) (.cells true 1 (bsn 65 fun _ => false)) ∧ At s1 (N + 1) (.cells true 1 (bsn 65 r)) ∧ Fr s1 s [] ∧ Mid l a j i r ∧ i ≤ n ∧ k2 = n - i) n ?_ ?_
        · exact ⟨0, r, by exact ev_, by exact ev_, by exact ev_, by exact ev_, by exact ev_, a4, a5, F, R.mid, by omega, rfl⟩
        clear a4 a5 F R e0 e4 e5 e6
        rintro k2 tm s1 ⟨i, r, e0, e4, e5, e6, e7, a4, a5, F, M, hi, hk2⟩
        by_cases hin : i < n
        · have hi' : l[i]? = some (l[i]'(by omega)) := List.getElem?_eq_getElem (by omega)
          obtain ⟨e, hee⟩ : ∃ e, e = l[i]'(by omega) := ⟨_, rfl⟩
          rw [← hee] at hi'
          have hne := hl e (List.mem_of_getElem? hi')
          have n1 : 1 ≤ e.a ∧ e.a ≤ 64 := hne.1
          have n2 : 1 ≤ e.b ∧ e.b ≤ 64 := hne.2
          obtain ⟨q, rw1, cs, rfl, hon, _, hq, _, _, g0, g1, _⟩ := (h.fr F).elt hi'
          have hqN := h.lt hT q hon
          have ga := bsn_get (n := 65) (f := r) (i := e.a.toNat) (by omega)
          have gb := bsn_get (n := 65) (f := r) (i := e.b.toNat) (by omega)
          cases h1 : r e.a.toNat
          · rw [h1] at ga
            cases h2 : r e.b.toNat
            · rw [h2] at gb
              (repeat' (first | (apply Ab.K.ev; exact ev_) | (apply Ab.K.aops; first | (apply Xg.s; constructor) | (apply Ab.S.guardU; (case hd => rfl); (case hb => (exact ev_; done))) | apply Ab.S.guardG) | (apply Ab.K.aop; first | (first | (apply Ab.O.allocA (l := bsn 65 fun _ => false) (N + 0); (case hid => exact frees_); (case hp => exact bsn_pl)) | (apply Ab.O.allocA (l := bsn 65 fun _ => false) (N + 1); (case hid => exact frees_); (case hp => exact bsn_pl)) | (apply Ab.Qz.br; (case hz => exact bsn_pl)) | (apply Ab.O.storeAll; (case hz => rfl); (case hx => exact ev_); (case hy => exact ev_); (case hs => exact at_); (case hl => exact bsn_length); (case hc => exact bsn_length)) | (apply Ab.O.loadAll; (case ha => rfl); (case hx => exact ev_); (case hs => exact at_); (case hl => exact bsn_length))) | (apply Og.s; constructor)) | (apply Ab.K.gk; first | (apply Xg.s; constructor) | (apply Ab.gY; case hw => assumption) | (apply Ab.gNT; case hw => assumption) | (apply Ab.gNF; case hw => assumption) | ((first | apply Ab.gD | apply Ab.gDN); all_goals (intro _ _; (first | contradiction | (exfalso; omega) | skip)))) | (apply Ab.K.awp; first | (apply Xg.s; constructor)) | (apply Ab.K.at_; exact at_) | (apply Ab.K.acall; first | assumption | exact node15) | (apply Ab.Rg.mk; omega) | (apply Ab.Lt.mk; first | decide | (simp; done) | (simp; omega) | (rw [bsn_length]; omega)) | (apply Ab.Get.mk; first | rfl | first | exact ga | exact gb | (rw [Int.toNat_natCast]; first | exact g0 | exact g1)) | (apply Ab.Nm.mk; first | exact bsn_set (by omega) | exact nrm_) | (apply Xg.s; constructor) | (apply Ab.asm; assumption) | rfl | infer_instance | decide))
              exact X.roundN (n - (i + 1)) (by omega) ⟨i + 1, r, by exact ev_, by exact ev_, by exact ev_, by exact ev_, by exact ev_, a4, a5, F, M.skip hi' h1 h2, by omega, rfl⟩
            · rw [h2] at gb
              (repeat' (first | (apply Ab.K.ev; exact ev_) | (apply Ab.K.aops; first | (apply Xg.s; constructor) | (apply Ab.S.guardU; (case hd => rfl); (case hb => (exact ev_; done))) | apply Ab.S.guardG) | (apply Ab.K.aop; first | (first | (apply Ab.O.allocA (l := bsn 65 fun _ => false) (N + 0); (case hid => exact frees_); (case hp => exact bsn_pl)) | (apply Ab.O.allocA (l := bsn 65 fun _ => false) (N + 1); (case hid => exact frees_); (case hp => exact bsn_pl)) | (apply Ab.Qz.br; (case hz => exact bsn_pl)) | (apply Ab.O.storeAll; (case hz => rfl); (case hx => exact ev_); (case hy => exact ev_); (case hs => exact at_); (case hl => exact bsn_length); (case hc => exact bsn_length)) | (apply Ab.O.loadAll; (case ha => rfl); (case hx => exact ev_); (case hs => exact at_); (case hl => exact bsn_length))) | (apply Og.s; constructor)) | (apply Ab.K.gk; first | (apply Xg.s; constructor) | (apply Ab.gY; case hw => assumption) | (apply Ab.gNT; case hw => assumption) | (apply Ab.gNF; case hw => assumption) | ((first | apply Ab.gD | apply Ab.gDN); all_goals (intro _ _; (first | contradiction | (exfalso; omega) | skip)))) | (apply Ab.K.awp; first | (apply Xg.s; constructor)) | (apply Ab.K.at_; exact at_) | (apply Ab.K.acall; first | assumption | exact node15) | (apply Ab.Rg.mk; omega) | (apply Ab.Lt.mk; first | decide | (simp; done) | (simp; omega) | (rw [bsn_length]; omega)) | (apply Ab.Get.mk; first | rfl | first | exact ga | exact gb | (rw [Int.toNat_natCast]; first | exact g0 | exact g1)) | (apply Ab.Nm.mk; first | exact bsn_set (by omega) | exact nrm_) | (apply Xg.s; constructor) | (apply Ab.asm; assumption) | rfl | infer_instance | decide))
              exact X.roundN (n - (i + 1)) (by omega) ⟨i + 1, _, by exact ev_, by exact ev_, by exact ev_, by exact ev_, by exact ev_, by exact at_, At.hit, by exact fr_, M.next hi' hne (.inr h2), by omega, rfl⟩
          · rw [h1] at ga
            (repeat' (first | (apply Ab.K.ev; exact ev_) | (apply Ab.K.aops; first | (apply Xg.s; constructor) | (apply Ab.S.guardU; (case hd => rfl); (case hb => (exact ev_; done))) | apply Ab.S.guardG) | (apply Ab.K.aop; first | (first | (apply Ab.O.allocA (l := bsn 65 fun _ => false) (N + 0); (case hid => exact frees_); (case hp => exact bsn_pl)) | (apply Ab.O.allocA (l := bsn 65 fun _ => false) (N + 1); (case hid => exact frees_); (case hp => exact bsn_pl)) | (apply Ab.Qz.br; (case hz => exact bsn_pl)) | (apply Ab.O.storeAll; (case hz => rfl); (case hx => exact ev_); (case hy => exact ev_); (case hs => exact at_); (case hl => exact bsn_length); (case hc => exact bsn_length)) | (apply Ab.O.loadAll; (case ha => rfl); (case hx => exact ev_); (case hs => exact at_); (case hl => exact bsn_length))) | (apply Og.s; constructor)) | (apply Ab.K.gk; first | (apply Xg.s; constructor) | (apply Ab.gY; case hw => assumption) | (apply Ab.gNT; case hw => assumption) | (apply Ab.gNF; case hw => assumption) | ((first | apply Ab.gD | apply Ab.gDN); all_goals (intro _ _; (first | contradiction | (exfalso; omega) | skip)))) | (apply Ab.K.awp; first | (apply Xg.s; constructor)) | (apply Ab.K.at_; exact at_) | (apply Ab.K.acall; first | assumption | exact node15) | (apply Ab.Rg.mk; omega) | (apply Ab.Lt.mk; first | decide | (simp; done) | (simp; omega) | (rw [bsn_length]; omega)) | (apply Ab.Get.mk; first | rfl | first | exact ga | exact gb | (rw [Int.toNat_natCast]; first | exact g0 | exact g1)) | (apply Ab.Nm.mk; first | exact bsn_set (by omega) | exact nrm_) | (apply Xg.s; constructor) | (apply Ab.asm; assumption) | rfl | infer_instance | decide))
            exact X.roundN (n - (i + 1)) (by omega) ⟨i + 1, _, by exact ev_, by exact ev_, by exact ev_, by exact ev_, by exact ev_, by exact at_, At.hit, by exact fr_, M.next hi' hne (.inl h1), by omega, rfl⟩
        · (repeat' (first | (apply Ab.K.ev; exact ev_) | (apply Ab.K.aops; first | (apply Xg.s; constructor) | (apply Ab.S.guardU; (case hd => rfl); (case hb => (exact ev_; done))) | apply Ab.S.guardG) | (apply Ab.K.aop; first | (first | (apply Ab.O.allocA (l := bsn 65 fun _ => false) (N + 0); (case hid => exact frees_); (case hp => exact bsn_pl)) | (apply Ab.O.allocA (l := bsn 65 fun _ => false) (N + 1); (case hid => exact frees_); (case hp => exact bsn_pl)) | (apply Ab.Qz.br; (case hz => exact bsn_pl)) | (apply Ab.O.storeAll; (case hz => rfl); (case hx => exact ev_); (case hy => exact ev_); (case hs => exact at_); (case hl => exact bsn_length); (case hc => exact bsn_length)) | (apply Ab.O.loadAll; (case ha => rfl); (case hx => exact ev_); (case hs => exact at_); (case hl => exact bsn_length))) | (apply Og.s; constructor)) | (apply Ab.K.gk; first | (apply Xg.s; constructor) | (apply Ab.gY; case hw => assumption) | (apply Ab.gNT; case hw => assumption) | (apply Ab.gNF; case hw => assumption) | ((first | apply Ab.gD | apply Ab.gDN); all_goals (intro _ _; (first | contradiction | (exfalso; omega) | skip)))) | (apply Ab.K.awp; first | (apply Xg.s; constructor)) | (apply Ab.K.at_; exact at_) | (apply Ab.K.acall; first | assumption | exact node15) | (apply Ab.Rg.mk; omega) | (apply Ab.Lt.mk; first | decide | (simp; done) | (simp; omega) | (rw [bsn_length]; omega)) | (apply Ab.Get.mk; first | rfl | first | exact ga | exact gb | (rw [Int.toNat_natCast]; first | exact g0 | exact g1)) | (apply Ab.Nm.mk; first | exact bsn_set (by omega) | exact nrm_) | (apply Xg.s; constructor) | (apply Ab.asm; assumption) | rfl | infer_instance | decide))
          exact X.roundN (64 - (j + 1)) (by omega) ⟨j + 1, r, by exact ev_, by exact ev_, by exact ev_, by exact ev_, a4, a5, F, M.rnd (by omega), by omega, rfl⟩
      · have hr := R.done hl ha (by omega)
        rw [← bsn_congr (n := 65) (fun i _ => hr i)]
        (repeat' (first | (apply Ab.K.ev; exact ev_) | (apply Ab.K.aops; first | (apply Xg.s; constructor) | (apply Ab.S.guardU; (case hd => rfl); (case hb => (exact ev_; done))) | apply Ab.S.guardG) | (apply Ab.K.aop; first | (first | (apply Ab.O.allocA (l := bsn 65 fun _ => false) (N + 0); (case hid => exact frees_); (case hp => exact bsn_pl)) | (apply Ab.O.allocA (l := bsn 65 fun _ => false) (N + 1); (case hid => exact frees_); (case hp => exact bsn_pl)) | (apply Ab.Qz.br; (case hz => exact bsn_pl)) | (apply Ab.O.storeAll; (case hz => rfl); (case hx => exact ev_); (case hy => exact ev_); (case hs => exact at_); (case hl => exact bsn_length); (case hc => exact bsn_length)) | (apply Ab.O.loadAll; (case ha => rfl); (case hx => exact ev_); (case hs => exact at_); (case hl => exact bsn_length))) | (apply Og.s; constructor)) | (apply Ab.K.gk; first | (apply Xg.s; constructor) | (apply Ab.gY; case hw => assumption) | (apply Ab.gNT; case hw => assumption) | (apply Ab.gNF; case hw => assumption) | ((first | apply Ab.gD | apply Ab.gDN); all_goals (intro _ _; (first | contradiction | (exfalso; omega) | skip)))) | (apply Ab.K.awp; first | (apply Xg.s; constructor)) | (apply Ab.K.at_; exact at_) | (apply Ab.K.acall; first | assumption | exact node15) | (apply Ab.Rg.mk; omega) | (apply Ab.Lt.mk; first | decide | (simp; done) | (simp; omega) | (rw [bsn_length]; omega)) | (apply Ab.Get.mk; first | rfl | first | exact ga | exact gb | (rw [Int.toNat_natCast]; first | exact g0 | exact g1)) | (apply Ab.Nm.mk; first | exact bsn_set (by omega) | exact nrm_) | (apply Xg.s; constructor) | (apply Ab.asm; assumption) | rfl | infer_instance | decide))
        all_goals ((first | apply RetQ.ret | apply RetQ.normal); (case he => (repeat' (first | exact bsn_length | exact EvR.nil | apply EvR.tmp | (apply EvR.cellA; (case ha => rfl)) | (apply Ab.K.ev; first | exact Ev.hit | (apply Ev.missB; case h => rfl) | exact Ev.const | apply Ev.non | assumption) | (apply Ab.K.at_; first | exact At.hit | (apply Ab.asm; assumption) | (apply At.miss; case h => omega)) | rfl))); (case hg => rfl))
        all_goals first | rfl | (apply Keeps.fr; (case h => exact fr_); (case hv => exact plR.nm bsn_plR))
  · have hr : ∀ i, reachB l a i = false := fun i => by
      cases hh : reachB l a i with
      | false => rfl
      | true => exact absurd (reachB_iff.1 hh).1 ha
    rw [bsn_congr (n := 65) (f' := fun _ => false) (fun i _ => hr i)]
    (repeat' (first | (apply Ab.K.ev; exact ev_) | (apply Ab.K.aops; first | (apply Xg.s; constructor) | (apply Ab.S.guardU; (case hd => rfl); (case hb => (exact ev_; done))) | apply Ab.S.guardG) | (apply Ab.K.aop; first | (first | (apply Ab.O.allocA (l := bsn 65 fun _ => false) (N + 0); (case hid => exact frees_); (case hp => exact bsn_pl)) | (apply Ab.O.allocA (l := bsn 65 fun _ => false) (N + 1); (case hid => exact frees_); (case hp => exact bsn_pl)) | (apply Ab.Qz.br; (case hz => exact bsn_pl)) | (apply Ab.O.storeAll; (case hz => rfl); (case hx => exact ev_); (case hy => exact ev_); (case hs => exact at_); (case hl => exact bsn_length); (case hc => exact bsn_length)) | (apply Ab.O.loadAll; (case ha => rfl); (case hx => exact ev_); (case hs => exact at_); (case hl => exact bsn_length))) | (apply Og.s; constructor)) | (apply Ab.K.gk; first | (apply Xg.s; constructor) | (apply Ab.gY; case hw => assumption) | (apply Ab.gNT; case hw => assumption) | (apply Ab.gNF; case hw => assumption) | ((first | apply Ab.gD | apply Ab.gDN); all_goals (intro _ _; (first | contradiction | (exfalso; omega) | skip)))) | (apply Ab.K.awp; first | (apply Xg.s; constructor)) | (apply Ab.K.at_; exact at_) | (apply Ab.K.acall; first | assumption | exact node15) | (apply Ab.Rg.mk; omega) | (apply Ab.Lt.mk; first | decide | (simp; done) | (simp; omega) | (rw [bsn_length]; omega)) | (apply Ab.Get.mk; first | rfl | first | exact ga | exact gb | (rw [Int.toNat_natCast]; first | exact g0 | exact g1)) | (apply Ab.Nm.mk; first | exact bsn_set (by omega) | exact nrm_) | (apply Xg.s; constructor) | (apply Ab.asm; assumption) | rfl | infer_instance | decide))
    all_goals ((first | apply RetQ.ret | apply RetQ.normal); (case he => (repeat' (first | exact bsn_length | exact EvR.nil | apply EvR.tmp | (apply EvR.cellA; (case ha => rfl)) | (apply Ab.K.ev; first | exact Ev.hit | (apply Ev.missB; case h => rfl) | exact Ev.const | apply Ev.non | assumption) | (apply Ab.K.at_; first | exact At.hit | (apply Ab.asm; assumption) | (apply At.miss; case h => omega)) | rfl))); (case hg => rfl))
    all_goals first | rfl | (apply Keeps.fr; (case h => exact fr_); (case hv => exact plR.nm bsn_plR))
end Go.Proofs.Ytdbnpghckgmaoaa

/- trees: join, has and top (written by gen_tj.py from c06). -/
namespace Go.Proofs.Ytdbnpghckgmaoaa
set_option linter.unusedVariables false
set_option linter.unusedSimpArgs false
set_option linter.unusedSectionVars false
open Go.RowKit Ab JP
attribute [local irreducible] AOps AOpsD AOp AWp put nargs AHeap.set At Free ACall thenQ blockQ roundQ RetQ Src
theorem has_spec {s : AHeap} {j : Nat} {A : Option Addr} {n c : Nat} {rest : List Value} {sz : Nat} (hj : At s j (.cells true sz (.slice A n c :: rest))) (a : Int) :
    ACall Try.prog 59 [.pointer (some ⟨j, 0, none⟩), .int .i64 a] s (.bool (decide (1 ≤ a ∧ a < n))) s := by
  refine ACall.make Try.func59 rfl (by kernel_rfl) (by decide) rfl (fun N hN => ?_)
  (repeat' (first | (apply Ab.K.ev; exact ev_) | (apply Ab.K.aops; first | (apply Xg.s; constructor) | apply Ab.S.guardG) | (apply Ab.K.aop; first | (apply Og.s; constructor)) | (apply Ab.K.gk; first | (apply Xg.s; constructor) | (apply Ab.gY; case hw => assumption) | (apply Ab.gNT; case hw => assumption) | (apply Ab.gNF; case hw => assumption) | ((first | apply Ab.gD | apply Ab.gDN); all_goals (intro _ _; (first | contradiction | (exfalso; omega) | skip)))) | (apply Ab.K.awp; first | (apply Xg.s; constructor)) | (apply Ab.K.at_; exact at_) | (apply Ab.K.acall; first | assumption | fail) | (apply Ab.Rg.mk; omega) | (apply Ab.Lt.mk; first | decide | (simp; done) | (simp; omega) | fail) | (apply Ab.Get.mk; first | rfl | fail) | (apply Ab.Nm.mk; first | exact nrm_) | (apply Xg.s; constructor) | (apply Ab.asm; assumption) | rfl | infer_instance | decide))
  all_goals ((first | apply RetQ.ret | apply RetQ.normal); (case he => exact evr_); (case hg => rfl))
  all_goals first | exact Keeps.self trivial | (simp only [resV]; congr 1; simp; omega)

theorem ints_at {l : List Int} {i : Int} (h : JP.In l i) : (ints l)[i.toNat]? = some (.int .i64 (JP.g l i)) := by
  have : i.toNat < l.length := by have := h.1; have := h.2; omega
  simp [ints, JP.g, List.getD, this]
theorem ints_set (l : List Int) (i : Nat) (v : Int) : (ints l).set i (.int .i64 v) = ints (l.set i v) := by simp [ints]
theorem set_self {s : AHeap} {i : Nat} {b : ABlk} (h : s i = some b) : s.set i b = s := by
  funext k; by_cases e : k = i
  · subst e; rw [AHeap.set_same, h]
  · rw [AHeap.set_other _ _ e]

theorem top_spec {m : Int → Nat} {s : AHeap} {j u : Nat} {c : Nat} {rest : List Value} {sz : Nat} {U : List Int} {a : Int} (hw : Wf m U) (ha : In U a) (hju : j ≠ u)
    (hj : At s j (.cells true sz (.slice (some ⟨u, 0, none⟩) U.length c :: rest))) (hu : At s u (.cells true 1 (ints U))) :
    ACall Try.prog 60 [.pointer (some ⟨j, 0, none⟩), .int .i64 a] s (.int .i64 (topS (m a) U a).2) (s.set u (.cells true 1 (ints (topS (m a) U a).1))) := by
  refine ACall.make Try.func60 rfl (by kernel_rfl) (by decide) rfl (fun N hN => ?_)
  (repeat' (first | (apply Ab.K.ev; exact ev_) | (apply Ab.K.aops; first | (apply Xg.s; constructor) | apply Ab.S.guardG) | (apply Ab.K.aop; first | (apply Og.s; constructor)) | (apply Ab.K.gk; first | (apply Xg.s; constructor) | (apply Ab.gY; case hw => assumption) | (apply Ab.gNT; case hw => assumption) | (apply Ab.gNF; case hw => assumption) | ((first | apply Ab.gD | apply Ab.gDN); all_goals (intro _ _; (first | contradiction | (exfalso; omega) | skip)))) | (apply Ab.K.awp; first | (apply Xg.s; constructor)) | (apply Ab.K.at_; exact at_) | (apply Ab.K.acall; first | assumption | fail) | (apply Ab.Rg.mk; omega) | (apply Ab.Lt.mk; first | decide | (simp; done) | (simp; omega) | fail) | (apply Ab.Get.mk; first | rfl | fail) | (apply Ab.Nm.mk; first | exact nrm_) | (apply Xg.s; constructor) | (apply Ab.asm; assumption) | rfl | infer_instance | decide))
  refine AWp.loop (fun k tm s1 => ∃ U1 a1, Ev tm (.tmp 0) (.pointer (some ⟨j, 0, none⟩)) ∧ Ev tm (.tmp 1) (.int .i64 a1) ∧ s1 = s.set u (.cells true 1 (ints U1)) ∧ Wf m U1 ∧ In U1 a1 ∧ U1.length = U.length ∧ m a1 ≤ k ∧ topS (m a1) U1 a1 = topS (m a) U a) (m a) ?_ ?_
  · refine ⟨U, a, ?_, ?_, (set_self hu.eq).symm, hw, ha, rfl, Nat.le_refl _, rfl⟩ <;> exact ev_
  · rintro k tm s1 ⟨U1, a1, h0, h1, rfl, hw1, ha1, hl1, hk, he⟩
    have hj1 : (s.set u (.cells true 1 (ints U1))) j = some (.cells true sz (.slice (some ⟨u, 0, none⟩) U1.length c :: rest)) := by rw [AHeap.set_other _ _ hju, hj.eq, hl1]
    have hu1 : (s.set u (.cells true 1 (ints U1))) u = some (.cells true 1 (ints U1)) := AHeap.set_same _ _ _
    have hb := ha1.1
    have hb2 := ha1.2
    have ha2 := (hw1 a1 ha1).1
    have hb3 := ha2.1
    have hb4 := ha2.2


    (repeat' (first | (apply Ab.K.ev; exact ev_) | (apply Ab.K.aops; first | (apply Xg.s; constructor) | apply Ab.S.guardG) | (apply Ab.K.aop; first | (apply Og.s; constructor)) | (apply Ab.K.gk; first | (apply Xg.s; constructor) | (apply Ab.gY; case hw => assumption) | (apply Ab.gNT; case hw => assumption) | (apply Ab.gNF; case hw => assumption) | ((first | apply Ab.gD | apply Ab.gDN); all_goals (intro _ _; (first | contradiction | (exfalso; omega) | skip)))) | (apply Ab.K.aopsD; first | (apply Ab.D.q0t; (case hw => rfl); (case hot => rfl)) | (apply Ab.D.w1t; (case hw => rfl); (case hot => rfl)) | (apply Ab.D.q0; (case hw => rfl); intro _ _) | (apply Ab.D.w1n; (case hw => rfl); intro _ _) | (apply Ab.D.w2n; (case hw => rfl); intro _ _) | (apply Xg.s; constructor) | fail | apply Ab.D.guardG) | exact ⟨rfl, rfl⟩ | (apply Ab.K.awp; first | (apply AWp.draw (id := 2) [[], [0], [0, 1], [0, 1, 2], [], [], [5], [5, 6], [5, 6, 7], [], [9], [9, 10], [9, 10, 11], [], [9, 10, 11, 12, 13], [9, 10, 11, 12, 13, 14], [5, 6, 7, 8, 9, 10, 11, 12, 13, 14, 15], [5, 6, 7, 8, 9, 10, 11, 12, 13, 14, 15, 16], [0, 1, 2, 3, 4, 5, 6, 7, 8, 9, 10, 11, 12, 13, 14, 15, 16, 17], [0, 1, 2, 3, 4, 5, 6, 7, 8, 9, 10, 11, 12, 13, 14, 15, 16, 17, 18]] [(19, [u])] (by kernel_rfl) (by kernel_rfl) (by simp [apartW, unordB, cC] <;> omega)) | (apply Xg.s; constructor)) | (apply Ab.K.at_; exact at_) | (apply Ab.K.acall; first | assumption | fail) | (apply Ab.Rg.mk; omega) | (apply Ab.Lt.mk; first | decide | (simp; done) | (simp; omega) | rw [ints_length]; omega) | (apply Ab.Get.mk; first | rfl | (first | exact ints_at (by assumption) | (rw [ints_set]; exact ints_at (In.set (by assumption))))) | (apply Ab.Nm.mk; first | exact nrm_) | (apply Xg.s; constructor) | (apply Ab.asm; assumption) | rfl | infer_instance | decide))
    · rename_i hne
      obtain ⟨w1, w2, w3, w4, w5⟩ := half_spec hw1 ha1 hne
      have e1 : g (half U1 a1) a1 = g U1 (g U1 a1) := g_set_same ha1
      refine X.roundN (m (g U1 (g U1 a1))) (by omega) ⟨half U1 a1, g U1 (g U1 a1), by exact ev_, ?_, by rw [AHeap.set_set, ints_set]; rfl, w1, by simpa [In, half] using w5, by rw [w2, hl1], Nat.le_refl _, ?_⟩
      · refine Eq.mp (congrArg (fun z => Ev _ (.tmp 1) (.int .i64 z)) e1) ?_; exact ev_
      · rw [← he]
        cases hm : m a1 with
        | zero => omega
        | succ q =>
          simp only [topS, if_neg hne]
          exact topS_more _ _ w1 (by simpa [In, half] using w5) (Nat.le_refl _) (by omega)
    · rename_i hne
      have hr : topS (m a1) U1 a1 = (U1, a1) := by cases m a1 <;> simp [topS, Decidable.not_not.1 hne]
      rw [hr] at he
      ((first | apply RetQ.ret | apply RetQ.normal); (case he => exact evr_); (case hg => rfl))
      · rw [← he]; rfl
      · rw [← he]
        refine Keeps.one hu.eq (AHeap.set_same _ _ _) (fun i hi c hc => by rw [AHeap.set_other _ _ hi]; exact hc) ?_ trivial
        intro x hx
        obtain ⟨y, _, rfl⟩ := List.mem_map.1 hx
        trivial

theorem has_yes {s : AHeap} {j : Nat} {A : Option Addr} {n c : Nat} {rest : List Value} {sz : Nat} (hj : At s j (.cells true sz (.slice A n c :: rest))) {a : Int} (h : 1 ≤ a ∧ a < n) :
    ACall Try.prog 59 [.pointer (some ⟨j, 0, none⟩), .int .i64 a] s (.bool true) s := by have := has_spec hj a; rwa [decide_eq_true h] at this
theorem has_no {s : AHeap} {j : Nat} {A : Option Addr} {n c : Nat} {rest : List Value} {sz : Nat} (hj : At s j (.cells true sz (.slice A n c :: rest))) {a : Int} (h : ¬ (1 ≤ a ∧ a < n)) :
    ACall Try.prog 59 [.pointer (some ⟨j, 0, none⟩), .int .i64 a] s (.bool false) s := by have := has_spec hj a; rwa [decide_eq_false h] at this
end Go.Proofs.Ytdbnpghckgmaoaa

/- trees: the document's links; edges but one. -/
namespace Go.Proofs.Ytdbnpghckgmaoaa
set_option linter.unusedVariables false
set_option linter.unusedSimpArgs false
set_option linter.unusedSectionVars false
open Go.RowKit Ab TP
attribute [local irreducible] AOps AOpsD AOp AWp put nargs AHeap.set At Free ACall thenQ blockQ roundQ RetQ Src bsn
theorem none_of {M : Nat} {s s1 : AHeap} (T : Top M s1) (F : Fr s1 s []) (i : Nat) (hi : M ≤ i) : s i = none := by
  cases h : s i with
  | none => rfl
  | some b => have := F i (by simp) b h; rw [T i hi] at this; cases this
theorem free_of {s : AHeap} {i : Nat} (h : s i = none) : Free s i := by unfold Free; exact h
theorem idx51 {f : Nat → Bool} {i : Int} (h : 0 ≤ i ∧ i < 65) : aindexV Try.prog 58 (.agg (bsn 65 f).toArray) (.int .i64 i) = some (.bool (f i.toNat)) := by
  have h4 : tdOf Try.prog 4 = some ⟨.bool, 1, 1, .bool false⟩ := by kernel_rfl
  have hg := bsn_get (n := 65) (f := f) (i := i.toNat) (by omega)
  have hi : (0 ≤ i ∧ i < ((65 : Nat) : Int)) := by omega
  simp only [aindexV, td51.is, h4, if_pos hi, apart, Nat.mul_one]
  simp [TD.agg, hg]
noncomputable def lkB (l : List E) (a b : Int) : Bool := decide (TP.Node a) && (decide (TP.Node b) && reachB l a b.toNat)
theorem lkB_iff {l : List E} {a b : Int} : lkB l a b = true ↔ TP.Node a ∧ TP.Node b ∧ Conn l a b := by
  unfold lkB
  rw [Bool.and_eq_true, Bool.and_eq_true, decide_eq_true_iff, decide_eq_true_iff, reachB_iff]
  constructor
  · rintro ⟨h1, h2, _, h3⟩
    rw [show ((b.toNat : Nat) : Int) = b from by have := h2.1; omega] at h3
    exact ⟨h1, h2, h3⟩
  · rintro ⟨h1, h2, h3⟩
    refine ⟨h1, h2, h1, ?_⟩
    rw [show ((b.toNat : Nat) : Int) = b from by have := h2.1; omega]; exact h3
theorem linked9 {s : AHeap} {A : Option Addr} {n c : Nat} {on : Option Nat} {l : List E} {a b : Int} (h : EA s (.slice A n c) on l) (hl : ∀ e ∈ l, TP.Node e.a ∧ TP.Node e.b) (hn : n < 4611686018427387904) :
    ACall Try.prog 16 [.slice A n c, .int .i64 a, .int .i64 b] s (.bool (lkB l a b)) s := by
  have c27 := reach27 (a := a) h hl hn
  have hnode : ∀ (s : AHeap) (n : Int), ACall Try.prog 22 [.int .i64 n] s (.bool (decide (TP.Node n))) s := fun s n => node15
  by_cases ha : TP.Node a
  · have na := hnode s a
    rw [decide_eq_true ha] at na
    by_cases hb : TP.Node b
    · have nb := hnode s b
      rw [decide_eq_true hb] at nb
      have hix := idx51 (f := reachB l a) (i := b) (by have := hb.1; have := hb.2; omega)


      (refine ACall.make Try.func16 rfl (by kernel_rfl) (by decide) rfl (fun N hN => ?_); have hT : Top N _ := hN; (repeat' (first | (apply Ab.K.ev; exact ev_) | (apply Ab.K.aops; first | (apply Xg.s; constructor) | (apply Ab.S.guardU; (case hd => rfl); (case hb => (exact ev_; done))) | apply Ab.S.guardG) | (apply Ab.K.aop; first | (apply Ab.O.indexV; (case hx => exact ev_); (case hy => exact ev_); (case hv => exact hix)) | (apply Og.s; constructor)) | (apply Ab.K.gk; first | (apply Xg.s; constructor) | (apply Ab.gY; case hw => assumption) | (apply Ab.gNT; case hw => assumption) | (apply Ab.gNF; case hw => assumption) | ((first | apply Ab.gD | apply Ab.gDN); all_goals (intro _ _; (first | contradiction | (exfalso; omega) | skip)))) | (apply Ab.K.awp; first | (apply Xg.s; constructor)) | (apply Ab.K.at_; exact at_) | (apply Ab.K.acall; first | assumption | first | exact na | exact nb | exact c27) | (apply Ab.Rg.mk; omega) | (apply Ab.Lt.mk; first | decide | (simp; done) | (simp; omega) | fail) | (apply Ab.Get.mk; first | rfl | fail) | (apply Ab.Nm.mk; first | exact nrm_) | (apply Xg.s; constructor) | (apply Ab.asm; assumption) | rfl | infer_instance | decide)); (all_goals ((first | apply RetQ.ret | apply RetQ.normal); (case he => exact evr_); (case hg => rfl))); (all_goals first | rfl | (apply Keeps.fr; (case h => exact fr_); (case hv => exact plR.nm rfl)) | (simp only [resV, lkB, decide_eq_true ha, decide_eq_true hb, Bool.true_and])))
    · have nb := hnode s b
      rw [decide_eq_false hb] at nb
      (refine ACall.make Try.func16 rfl (by kernel_rfl) (by decide) rfl (fun N hN => ?_); have hT : Top N _ := hN; (repeat' (first | (apply Ab.K.ev; exact ev_) | (apply Ab.K.aops; first | (apply Xg.s; constructor) | (apply Ab.S.guardU; (case hd => rfl); (case hb => (exact ev_; done))) | apply Ab.S.guardG) | (apply Ab.K.aop; first | (apply Ab.O.indexV; (case hx => exact ev_); (case hy => exact ev_); (case hv => exact hix)) | (apply Og.s; constructor)) | (apply Ab.K.gk; first | (apply Xg.s; constructor) | (apply Ab.gY; case hw => assumption) | (apply Ab.gNT; case hw => assumption) | (apply Ab.gNF; case hw => assumption) | ((first | apply Ab.gD | apply Ab.gDN); all_goals (intro _ _; (first | contradiction | (exfalso; omega) | skip)))) | (apply Ab.K.awp; first | (apply Xg.s; constructor)) | (apply Ab.K.at_; exact at_) | (apply Ab.K.acall; first | assumption | first | exact na | exact nb | exact c27) | (apply Ab.Rg.mk; omega) | (apply Ab.Lt.mk; first | decide | (simp; done) | (simp; omega) | fail) | (apply Ab.Get.mk; first | rfl | fail) | (apply Ab.Nm.mk; first | exact nrm_) | (apply Xg.s; constructor) | (apply Ab.asm; assumption) | rfl | infer_instance | decide)); (all_goals ((first | apply RetQ.ret | apply RetQ.normal); (case he => exact evr_); (case hg => rfl))); (all_goals first | rfl | (apply Keeps.fr; (case h => exact fr_); (case hv => exact plR.nm rfl)) | (simp only [resV, lkB, decide_eq_true ha, decide_eq_false hb, Bool.true_and, Bool.false_and])))
  · have na := hnode s a
    rw [decide_eq_false ha] at na
    (refine ACall.make Try.func16 rfl (by kernel_rfl) (by decide) rfl (fun N hN => ?_); have hT : Top N _ := hN; (repeat' (first | (apply Ab.K.ev; exact ev_) | (apply Ab.K.aops; first | (apply Xg.s; constructor) | (apply Ab.S.guardU; (case hd => rfl); (case hb => (exact ev_; done))) | apply Ab.S.guardG) | (apply Ab.K.aop; first | (apply Ab.O.indexV; (case hx => exact ev_); (case hy => exact ev_); (case hv => exact hix)) | (apply Og.s; constructor)) | (apply Ab.K.gk; first | (apply Xg.s; constructor) | (apply Ab.gY; case hw => assumption) | (apply Ab.gNT; case hw => assumption) | (apply Ab.gNF; case hw => assumption) | ((first | apply Ab.gD | apply Ab.gDN); all_goals (intro _ _; (first | contradiction | (exfalso; omega) | skip)))) | (apply Ab.K.awp; first | (apply Xg.s; constructor)) | (apply Ab.K.at_; exact at_) | (apply Ab.K.acall; first | assumption | first | exact na | exact nb | exact c27) | (apply Ab.Rg.mk; omega) | (apply Ab.Lt.mk; first | decide | (simp; done) | (simp; omega) | fail) | (apply Ab.Get.mk; first | rfl | fail) | (apply Ab.Nm.mk; first | exact nrm_) | (apply Xg.s; constructor) | (apply Ab.asm; assumption) | rfl | infer_instance | decide)); (all_goals ((first | apply RetQ.ret | apply RetQ.normal); (case he => exact evr_); (case hg => rfl))); (all_goals first | rfl | (apply Keeps.fr; (case h => exact fr_); (case hv => exact plR.nm rfl)) | (simp only [resV, lkB, decide_eq_false ha, Bool.false_and])))

theorem rm_snoc {l : List E} {f e : E} : rm (l ++ [f]) e = rm l e ++ if f = e then [] else [f] := by
  unfold rm
  rw [List.filter_append]
  by_cases h : f = e <;> simp [h]
theorem rm_len {l : List E} {e : E} : (rm l e).length ≤ l.length := List.length_filter_le _ _
theorem without37 {s : AHeap} {A : Option Addr} {n c : Nat} {on : Option Nat} {l : List E} {e : E} {o : Nat} (h : EA s (.slice A n c) on l) (hn : n ≤ 1000) (ho : s o = none) :
    ACall Try.prog 52 [.slice A n c, .agg (ec e).toArray] s (.slice (some ⟨o, 0, none⟩) (rm l e).length (rm l e).length) (s.set o (.cells true 3 (ecs (rm l e)))) := by
  have hnl : n = l.length := by obtain ⟨_, _, e⟩ := h.isl; injection e
  refine ACall.make Try.func52 rfl (by kernel_rfl) (by decide) rfl (fun N hN => ?_)
  have hT : Top N s := hN

  (repeat' (first | (apply Ab.K.ev; exact ev_) | (apply Ab.K.aops; first | (apply Xg.s; constructor) | (apply Ab.S.guardU; (case hd => rfl); (case hb => (exact ev_; done))) | apply Ab.S.guardG) | (apply Ab.K.aop; first | (first | (apply Ab.O.boxA (l := ec e) (N + 0); (case hx => exact ev_); (case hid => exact frees_)) | (apply Ab.O.build0 (N + 1) (te := ⟨.struct [(0, 3), (1, 3), (2, 3)], 3, 24, .agg #[.int .i64 0, .int .i64 0, .int .i64 0]⟩); (case hz => exact ⟨rfl, rfl⟩); (case hid => exact frees_))) | (apply Og.s; constructor)) | (apply Ab.K.gk; first | (apply Xg.s; constructor) | (apply Ab.gY; case hw => assumption) | (apply Ab.gNT; case hw => assumption) | (apply Ab.gNF; case hw => assumption) | ((first | apply Ab.gD | apply Ab.gDN); all_goals (intro _ _; (first | contradiction | (exfalso; omega) | skip)))) | (apply Ab.K.awp; first | (apply Xg.s; constructor)) | (apply Ab.K.at_; exact at_) | (apply Ab.K.acall; first | assumption | fail) | (apply Ab.Rg.mk; omega) | (apply Ab.Lt.mk; first | decide | (simp; done) | (simp; omega) | fail) | (apply Ab.Get.mk; first | rfl | fail) | (apply Ab.Nm.mk; first | exact nrm_) | (apply Xg.s; constructor) | (apply Ab.asm; assumption) | rfl | infer_instance | decide))
  refine AWp.loop (fun kk tm s1 => ∃ (i q M : Nat), Ev tm (.tmp 0) (.slice A n c) ∧ Ev tm (.tmp 3) (.pointer (some ⟨N + 0, 0, none⟩)) ∧ Ev tm (.tmp 5) (.slice (some ⟨q, 0, none⟩) (rm (l.take i) e).length (rm (l.take i) e).length) ∧ Ev tm (.tmp 6) (.int .i64 i) ∧ At s1 (N + 0) (.cells true 1 (ec e)) ∧ At s1 q (.cells true 3 (ecs (rm (l.take i) e))) ∧ Fr s1 s [] ∧ N + 1 ≤ q ∧ Top M s1 ∧ i ≤ n ∧ kk = n - i) n ?_ ?_
  · exact ⟨0, N + 1, N + 2, by exact ev_, by exact ev_, by exact ev_, by exact ev_, by exact at_, by exact at_, by exact fr_, Nat.le_refl _, (hT.new (M := N)).new, by omega, rfl⟩
  rintro kk tm s1 ⟨i, q, M, e0, e3, e5, e6, a3, a5, F, hq, T, hi, hkk⟩
  have hqM := T.lt a5
  by_cases hin : i < n
  · have hi' : l[i]? = some (l[i]'(by omega)) := List.getElem?_eq_getElem (by omega)
    obtain ⟨f, hff⟩ : ∃ f, f = l[i]'(by omega) := ⟨_, rfl⟩
    rw [← hff] at hi'
    have htk : l.take (i + 1) = l.take i ++ [f] := by rw [List.take_add_one, hi']; rfl
    obtain ⟨q', rw1, cs, rfl, hon, _, hq', _, hE, _⟩ := (h.fr F).elt hi'
    have hqN := h.lt hT q' hon
    have hNM : N + 0 < M := T.lt a3
    have hkl : (rm (l.take i) e).length ≤ n := Nat.le_trans rm_len (by rw [List.length_take]; omega)

    by_cases hfe : f = e
    · have q1 : ∀ x y, ABin Try.prog .neq 43 x y (.agg (ec f).toArray) (.agg (ec e).toArray) (.bool false) := fun x y => by have := ne32 (x := x) (y := y) (e := f) (f := e); rwa [decide_eq_true hfe] at this
      have hr : rm (l.take (i + 1)) e = rm (l.take i) e := by rw [htk, rm_snoc, if_pos hfe, List.append_nil]

      (repeat' (first | (apply Ab.K.ev; exact ev_) | (apply Ab.K.aops; first | (apply Xg.s; constructor) | (apply Ab.S.guardU; (case hd => rfl); (case hb => (exact ev_; done))) | apply Ab.S.guardG) | (apply Ab.K.aop; first | (apply Ab.O.bin; (case hx => exact ev_); (case hy => exact ev_); (case hv => exact q1 _ _)) | (apply Og.s; constructor)) | (apply Ab.K.gk; first | (apply Xg.s; constructor) | (apply Ab.gY; case hw => assumption) | (apply Ab.gNT; case hw => assumption) | (apply Ab.gNF; case hw => assumption) | ((first | apply Ab.gD | apply Ab.gDN); all_goals (intro _ _; (first | contradiction | (exfalso; omega) | skip)))) | (apply Ab.K.aopsD; first | (apply Ab.D.q0t; (case hw => rfl); (case hot => rfl)) | (apply Ab.D.w1t; (case hw => rfl); (case hot => rfl)) | (apply Ab.D.q0; (case hw => rfl); intro _ _) | (apply Ab.D.w1n; (case hw => rfl); intro _ _) | (apply Ab.D.w2n; (case hw => rfl); intro _ _) | (apply Xg.s; constructor) | fail | apply Ab.D.guardG) | exact ⟨rfl, rfl⟩ | (apply Ab.K.awp; first | (apply AWp.draw (id := 5) [[], [], [0, 1], [0, 1, 2], [], [0, 1, 2, 3, 4]] [] (by kernel_rfl) (by kernel_rfl) (by simp [apartW, unordB, cC] <;> omega)) | (apply Xg.s; constructor)) | (apply Ab.K.at_; exact at_) | (apply Ab.K.acall; first | assumption | fail) | (apply Ab.Rg.mk; omega) | (apply Ab.Lt.mk; first | decide | (simp; done) | (simp; omega) | first | omega | (show (0 + 3 : Nat) < 3 + 1; decide)) | (apply Ab.Get.mk; first | rfl | fail) | (apply Ab.Nm.mk; first | first | exact Eq.trans (congrArg (fun z => List.take _ (List.drop (z * 3) cs)) (Int.toNat_natCast i)) hE | exact (show ((ec e).drop 0).take 3 = ec e from rfl) | exact nrm_) | (apply Xg.s; constructor) | (apply Ab.asm; assumption) | rfl | infer_instance | decide))
      exact X.roundN (n - (i + 1)) (by omega) ⟨i + 1, q, M, by exact ev_, by exact ev_, by rw [hr]; exact ev_, by exact ev_, a3, by rw [hr]; exact a5, F, hq, T, by omega, rfl⟩
    · have q1 : ∀ x y, ABin Try.prog .neq 43 x y (.agg (ec f).toArray) (.agg (ec e).toArray) (.bool true) := fun x y => by have := ne32 (x := x) (y := y) (e := f) (f := e); rwa [decide_eq_false hfe] at this
      have hr : rm (l.take (i + 1)) e = rm (l.take i) e ++ [f] := by rw [htk, rm_snoc, if_neg hfe]
      (repeat' (first | (apply Ab.K.ev; exact ev_) | (apply Ab.K.aops; first | (apply Xg.s; constructor) | (apply Ab.S.guardU; (case hd => rfl); (case hb => (exact ev_; done))) | apply Ab.S.guardG) | (apply Ab.K.aop; first | (first | (apply Ab.O.bin; (case hx => exact ev_); (case hy => exact ev_); (case hv => exact q1 _ _)) | (apply Ab.O.build1A M; (case hx => exact ev_); (case hl => rfl); (case hz => exact ⟨rfl, rfl⟩); (case hes => decide); (case hid => exact T.free (Nat.le_refl _)))) | (apply Og.s; constructor)) | (apply Ab.K.gk; first | (apply Xg.s; constructor) | (apply Ab.gY; case hw => assumption) | (apply Ab.gNT; case hw => assumption) | (apply Ab.gNF; case hw => assumption) | ((first | apply Ab.gD | apply Ab.gDN); all_goals (intro _ _; (first | contradiction | (exfalso; omega) | skip)))) | (apply Ab.K.aopsD; first | (apply Ab.D.q0t; (case hw => rfl); (case hot => rfl)) | (apply Ab.D.w1t; (case hw => rfl); (case hot => rfl)) | (apply Ab.D.q0; (case hw => rfl); intro _ _) | (apply Ab.D.w1n; (case hw => rfl); intro _ _) | (apply Ab.D.w2n; (case hw => rfl); intro _ _) | (apply Xg.s; constructor) | fail | apply Ab.D.guardG) | exact ⟨rfl, rfl⟩ | (apply Ab.K.awp; first | (apply AWp.draw (id := 5) [[], [], [0, 1], [0, 1, 2], [], [0, 1, 2, 3, 4]] [] (by kernel_rfl) (by kernel_rfl) (by simp [apartW, unordB, cC] <;> omega)) | (apply Xg.s; constructor)) | (apply Ab.K.at_; exact at_) | (apply Ab.K.acall; first | assumption | fail) | (apply Ab.Rg.mk; omega) | (apply Ab.Lt.mk; first | decide | (simp; done) | (simp; omega) | first | omega | (show (0 + 3 : Nat) < 3 + 1; decide)) | (apply Ab.Get.mk; first | rfl | fail) | (apply Ab.Nm.mk; first | first | exact Eq.trans (congrArg (fun z => List.take _ (List.drop (z * 3) cs)) (Int.toNat_natCast i)) hE | exact (show ((ec e).drop 0).take 3 = ec e from rfl) | exact nrm_) | (apply Xg.s; constructor) | (apply Ab.asm; assumption) | rfl | infer_instance | decide))
      (apply Ab.O.appendL (M + 1); (case hx => exact ev_); (case hL => first | exact LAt.nil | exact LAt.blk (by exact at_) (by first | rfl | simp [ecs_length])); (case hy => exact ev_); (case hs => first | exact Src.sl (by exact at_) (by decide) (by decide) rfl | exact srcAll (by exact at_) (by first | rfl | simp [ecs_length])); (case hk => rfl); (case hm => decide); (case hl => first | rfl | first | rfl | simp [ecs_length]); (case hz => decide); (case hb => omega); (case hfree => exact free_))
      intro s2 g
      have out : ∀ j, j < M → q ≠ j → s2 j = s1 j := fun j hj hne => by rw [g.off _ (fun e => hne (Option.some.inj e)) (by omega), AHeap.set_other _ _ (by omega)]
      have T2 := g.topN T.new (fun q' e => by have := Option.some.inj e; omega)
      have F2 := g.fr (Fr.new (free_of (none_of T F _ (Nat.le_refl _))) F) (fun q' e => .inl (hT.none (by have := Option.some.inj e; omega)))
      have a3' : At s2 (N + 0) (.cells true 1 (ec e)) := At.var (by rw [out _ hNM (by omega)]; exact a3.eq)
      have gh := g.hit
      (repeat' (first | (apply Ab.K.ev; exact ev_) | (apply Ab.K.aops; first | (apply Xg.s; constructor) | (apply Ab.S.guardU; (case hd => rfl); (case hb => (exact ev_; done))) | apply Ab.S.guardG) | (apply Ab.K.aop; first | (apply Og.s; constructor)) | (apply Ab.K.gk; first | (apply Xg.s; constructor) | (apply Ab.gY; case hw => assumption) | (apply Ab.gNT; case hw => assumption) | (apply Ab.gNF; case hw => assumption) | ((first | apply Ab.gD | apply Ab.gDN); all_goals (intro _ _; (first | contradiction | (exfalso; omega) | skip)))) | (apply Ab.K.awp; first | (apply Xg.s; constructor)) | (apply Ab.K.at_; exact at_) | (apply Ab.K.acall; first | assumption | fail) | (apply Ab.Rg.mk; omega) | (apply Ab.Lt.mk; first | decide | (simp; done) | (simp; omega) | first | omega | (show (0 + 3 : Nat) < 3 + 1; decide)) | (apply Ab.Get.mk; first | rfl | fail) | (apply Ab.Nm.mk; first | first | exact Eq.trans (congrArg (fun z => List.take _ (List.drop (z * 3) cs)) (Int.toNat_natCast i)) hE | exact (show ((ec e).drop 0).take 3 = ec e from rfl) | exact nrm_) | (apply Xg.s; constructor) | (apply Ab.asm; assumption) | rfl | infer_instance | decide))
      refine X.roundN (n - (i + 1)) (by omega) ⟨i + 1, M + 1, M + 2, by exact ev_, by exact ev_, by rw [hr, List.length_append]; exact ev_, by exact ev_, a3', by rw [hr, ecs_append]; exact gh, F2, by omega, T2, by omega, rfl⟩
  · obtain rfl : i = n := by omega
    rw [hnl, List.take_length] at e5 a5
    (repeat' (first | (apply Ab.K.ev; exact ev_) | (apply Ab.K.aops; first | (apply Xg.s; constructor) | (apply Ab.S.guardU; (case hd => rfl); (case hb => (exact ev_; done))) | apply Ab.S.guardG) | (apply Ab.K.aop; first | (apply Og.s; constructor)) | (apply Ab.K.gk; first | (apply Xg.s; constructor) | (apply Ab.gY; case hw => assumption) | (apply Ab.gNT; case hw => assumption) | (apply Ab.gNF; case hw => assumption) | ((first | apply Ab.gD | apply Ab.gDN); all_goals (intro _ _; (first | contradiction | (exfalso; omega) | skip)))) | (apply Ab.K.awp; first | (apply Xg.s; constructor)) | (apply Ab.K.at_; exact at_) | (apply Ab.K.acall; first | assumption | fail) | (apply Ab.Rg.mk; omega) | (apply Ab.Lt.mk; first | decide | (simp; done) | (simp; omega) | first | omega | (show (0 + 3 : Nat) < 3 + 1; decide)) | (apply Ab.Get.mk; first | rfl | fail) | (apply Ab.Nm.mk; first | first | exact Eq.trans (congrArg (fun z => List.take _ (List.drop (z * 3) cs)) (Int.toNat_natCast i)) hE | exact (show ((ec e).drop 0).take 3 = ec e from rfl) | exact nrm_) | (apply Xg.s; constructor) | (apply Ab.asm; assumption) | rfl | infer_instance | decide))
    apply RetQ.retR (renL (dn [(o, q, .cells true 3 (ecs (rm l e)))]))
    (case he => exact evr_)
    (case hg => rfl)
    · simp [resV, mpR, mpB, mp1, mpA, renL_hit]
    · exact KeepsR.new1 ho (hT.none (by omega)) F a5 (ecs_pl _) rfl
    · simp
end Go.Proofs.Ytdbnpghckgmaoaa
