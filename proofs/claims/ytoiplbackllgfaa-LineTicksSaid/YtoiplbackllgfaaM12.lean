/- texts of this claim, one behind the other: LA, LB, LC, LD. -/
import Derived.Test.YtoiplbackllgfaaM1
import Derived.Test.YtoiplbackllgfaaM11
import Derived.Test.YtoiplbackllgfaaProg
import Derived.KernelRfl
import Derived.Laws.StructEq

/- lines: the functions of one end of a session, over the abstract memory. -/
namespace Go.Proofs.Ytoiplbackllgfaa
set_option linter.unusedVariables false
set_option linter.unusedSimpArgs false
set_option linter.unusedSectionVars false
open Go.RowKit Ab HP
attribute [local irreducible] AOps AOpsD AOp AWp put nargs AHeap.set At Free ACall ACallE thenQ blockQ roundQ RetQ RetE Src Gr
instance : HasTD Try.prog 3 ⟨.int .i64, 1, 8, .int .i64 0⟩ := ⟨by kernel_rfl⟩
instance : HasTD Try.prog 4 ⟨.bool, 1, 1, .bool false⟩ := ⟨by kernel_rfl⟩
instance : HasTD Try.prog 5 ⟨.int .u8, 1, 1, .int .u8 0⟩ := ⟨by kernel_rfl⟩
instance : HasTD Try.prog 9 ⟨.str, 1, 16, .string .empty⟩ := ⟨by kernel_rfl⟩
instance : HasPl Try.prog 23 [(0, 1), (1, 1), (2, 1), (3, 1)] := ⟨by kernel_rfl⟩
instance : HasTD Try.prog 23 ⟨.struct [(0, 3), (1, 3), (2, 3), (3, 4)], 4, 32, .agg #[.int .i64 0, .int .i64 0, .int .i64 0, .bool false]⟩ := ⟨by kernel_rfl⟩
instance : HasTD Try.prog 24 ⟨.slice 31, 1, 24, .slice none 0 0⟩ := ⟨by kernel_rfl⟩
instance : HasPl Try.prog 26 [(0, 1), (1, 1), (2, 1), (3, 1)] := ⟨by kernel_rfl⟩
instance : HasTD Try.prog 26 ⟨.struct [(0, 3), (1, 3), (2, 24), (3, 3)], 4, 48, .agg #[.int .i64 0, .int .i64 0, .slice none 0 0, .int .i64 0]⟩ := ⟨by kernel_rfl⟩
instance : HasPl Try.prog 28 [(0, 1), (1, 1)] := ⟨by kernel_rfl⟩
instance : HasTD Try.prog 28 ⟨.struct [(0, 3), (1, 4)], 2, 16, .agg #[.int .i64 0, .bool false]⟩ := ⟨by kernel_rfl⟩
instance : HasPl Try.prog 30 [(0, 4), (4, 4), (8, 2)] := ⟨by kernel_rfl⟩
instance : HasTD Try.prog 30 ⟨.struct [(0, 23), (4, 26), (8, 28)], 10, 96, .agg #[.int .i64 0, .int .i64 0, .int .i64 0, .bool false, .int .i64 0, .int .i64 0, .slice none 0 0, .int .i64 0, .int .i64 0, .bool false]⟩ := ⟨by kernel_rfl⟩
instance : HasTD Try.prog 31 ⟨.slice 5, 1, 24, .slice none 0 0⟩ := ⟨by kernel_rfl⟩
instance : HasPl Try.prog 33 [(0, 1), (1, 1), (2, 1), (3, 1), (4, 1)] := ⟨by kernel_rfl⟩
instance : HasTD Try.prog 33 ⟨.struct [(0, 3), (1, 3), (2, 3), (3, 3), (4, 31)], 5, 56, .agg #[.int .i64 0, .int .i64 0, .int .i64 0, .int .i64 0, .slice none 0 0]⟩ := ⟨by kernel_rfl⟩
instance : HasTD Try.prog 36 ⟨.slice 33, 1, 24, .slice none 0 0⟩ := ⟨by kernel_rfl⟩
instance : HasPl Try.prog 38 [(0, 1), (1, 1), (2, 1), (3, 1)] := ⟨by kernel_rfl⟩
instance : HasTD Try.prog 38 ⟨.struct [(0, 36), (1, 24), (2, 4), (3, 3)], 4, 64, .agg #[.slice none 0 0, .slice none 0 0, .bool false, .int .i64 0]⟩ := ⟨by kernel_rfl⟩
instance : HasTD Try.prog 39 ⟨.int .i64, 1, 8, .int .i64 0⟩ := ⟨by kernel_rfl⟩
instance : HasTD Try.prog 104 ⟨.slice 126, 1, 24, .slice none 0 0⟩ := ⟨by kernel_rfl⟩
instance : HasPl Try.prog 126 [(0, 1), (1, 1)] := ⟨by kernel_rfl⟩
instance : HasTD Try.prog 126 ⟨.struct [(0, 3), (1, 31)], 2, 32, .agg #[.int .i64 0, .slice none 0 0]⟩ := ⟨by kernel_rfl⟩
instance : HasTD Try.prog 84 ⟨.slice 3, 1, 24, .slice none 0 0⟩ := ⟨by kernel_rfl⟩


abbrev hl (h : H) : List Value := [.int .i64 h.last, .int .i64 h.cur, .int .i64 h.prop, .bool h.over]
abbrev hv (h : H) : Value := .agg (hl h).toArray

theorem count_yes {s : AHeap} {n a : Int} (h : a ≤ n ∧ n ≤ 2147483647) : ACall Try.prog 68 [.int .i64 n, .int .i64 a] s (.bool true) s := by
  refine ACall.make Try.func68 rfl (by kernel_rfl) (by decide) rfl (fun N hN => ?_)
  (repeat' (first | (apply Ab.K.ev; exact ev_) | (apply Ab.K.aops; first | (apply Xg.s; constructor) | apply Ab.S.guardG) | (apply Ab.K.aop; first | (apply Og.s; constructor)) | (apply Ab.K.gk; first | (apply Xg.s; constructor) | (apply Ab.gY; case hw => assumption) | (apply Ab.gNT; case hw => assumption) | (apply Ab.gNF; case hw => assumption) | ((first | apply Ab.gD | apply Ab.gDN); all_goals (intro _ _; (first | contradiction | (exfalso; omega) | skip)))) | (apply Ab.K.awp; first | (apply Xg.s; constructor)) | (apply Ab.K.at_; exact at_) | (apply Ab.K.acall; first | assumption | fail) | (apply Ab.Rg.mk; omega) | (apply Ab.Lt.mk; first | decide | (simp; done) | (simp; omega) | fail) | (apply Ab.Get.mk; first | rfl | fail) | (apply Ab.Nm.mk; first | exact nrm_) | (apply Xg.s; constructor) | (apply Ab.asm; assumption) | rfl | infer_instance | decide))
  all_goals ((first | apply RetQ.ret | apply RetQ.normal); (case he => exact evr_); (case hg => rfl))
  all_goals first | exact Keeps.self trivial | rfl | (simp only [resV]; congr 1; simp; omega)
theorem count_no {s : AHeap} {n a : Int} (h : ¬ (a ≤ n ∧ n ≤ 2147483647)) : ACall Try.prog 68 [.int .i64 n, .int .i64 a] s (.bool false) s := by
  refine ACall.make Try.func68 rfl (by kernel_rfl) (by decide) rfl (fun N hN => ?_)
  (repeat' (first | (apply Ab.K.ev; exact ev_) | (apply Ab.K.aops; first | (apply Xg.s; constructor) | apply Ab.S.guardG) | (apply Ab.K.aop; first | (apply Og.s; constructor)) | (apply Ab.K.gk; first | (apply Xg.s; constructor) | (apply Ab.gY; case hw => assumption) | (apply Ab.gNT; case hw => assumption) | (apply Ab.gNF; case hw => assumption) | ((first | apply Ab.gD | apply Ab.gDN); all_goals (intro _ _; (first | contradiction | (exfalso; omega) | skip)))) | (apply Ab.K.awp; first | (apply Xg.s; constructor)) | (apply Ab.K.at_; exact at_) | (apply Ab.K.acall; first | assumption | fail) | (apply Ab.Rg.mk; omega) | (apply Ab.Lt.mk; first | decide | (simp; done) | (simp; omega) | fail) | (apply Ab.Get.mk; first | rfl | fail) | (apply Ab.Nm.mk; first | exact nrm_) | (apply Xg.s; constructor) | (apply Ab.asm; assumption) | rfl | infer_instance | decide))
  all_goals ((first | apply RetQ.ret | apply RetQ.normal); (case he => exact evr_); (case hg => rfl))
  all_goals first | exact Keeps.self trivial | rfl | (simp only [resV]; congr 1; simp; omega)
theorem limit_yes {s : AHeap} {n : Int} (h : 1 ≤ n ∧ n ≤ 2147483647) : ACall Try.prog 12 [.int .i64 n] s (.bool true) s := by
  refine ACall.make Try.func12 rfl (by kernel_rfl) (by decide) rfl (fun N hN => ?_)
  (repeat' (first | (apply Ab.K.ev; exact ev_) | (apply Ab.K.aops; first | (apply Xg.s; constructor) | apply Ab.S.guardG) | (apply Ab.K.aop; first | (apply Og.s; constructor)) | (apply Ab.K.gk; first | (apply Xg.s; constructor) | (apply Ab.gY; case hw => assumption) | (apply Ab.gNT; case hw => assumption) | (apply Ab.gNF; case hw => assumption) | ((first | apply Ab.gD | apply Ab.gDN); all_goals (intro _ _; (first | contradiction | (exfalso; omega) | skip)))) | (apply Ab.K.awp; first | (apply Xg.s; constructor)) | (apply Ab.K.at_; exact at_) | (apply Ab.K.acall; first | assumption | fail) | (apply Ab.Rg.mk; omega) | (apply Ab.Lt.mk; first | decide | (simp; done) | (simp; omega) | fail) | (apply Ab.Get.mk; first | rfl | fail) | (apply Ab.Nm.mk; first | exact nrm_) | (apply Xg.s; constructor) | (apply Ab.asm; assumption) | rfl | infer_instance | decide))
  all_goals ((first | apply RetQ.ret | apply RetQ.normal); (case he => exact evr_); (case hg => rfl))
  all_goals first | exact Keeps.self trivial | rfl | (simp only [resV]; congr 1; simp; omega)
theorem limit_no {s : AHeap} {n : Int} (h : ¬ (1 ≤ n ∧ n ≤ 2147483647)) : ACall Try.prog 12 [.int .i64 n] s (.bool false) s := by
  refine ACall.make Try.func12 rfl (by kernel_rfl) (by decide) rfl (fun N hN => ?_)
  (repeat' (first | (apply Ab.K.ev; exact ev_) | (apply Ab.K.aops; first | (apply Xg.s; constructor) | apply Ab.S.guardG) | (apply Ab.K.aop; first | (apply Og.s; constructor)) | (apply Ab.K.gk; first | (apply Xg.s; constructor) | (apply Ab.gY; case hw => assumption) | (apply Ab.gNT; case hw => assumption) | (apply Ab.gNF; case hw => assumption) | ((first | apply Ab.gD | apply Ab.gDN); all_goals (intro _ _; (first | contradiction | (exfalso; omega) | skip)))) | (apply Ab.K.awp; first | (apply Xg.s; constructor)) | (apply Ab.K.at_; exact at_) | (apply Ab.K.acall; first | assumption | fail) | (apply Ab.Rg.mk; omega) | (apply Ab.Lt.mk; first | decide | (simp; done) | (simp; omega) | fail) | (apply Ab.Get.mk; first | rfl | fail) | (apply Ab.Nm.mk; first | exact nrm_) | (apply Xg.s; constructor) | (apply Ab.asm; assumption) | rfl | infer_instance | decide))
  all_goals ((first | apply RetQ.ret | apply RetQ.normal); (case he => exact evr_); (case hg => rfl))
  all_goals first | exact Keeps.self trivial | rfl | (simp only [resV]; congr 1; simp; omega)

theorem check_ok' {s : AHeap} {last cur prop : Int} {over : Bool} (hm' : (0 ≤ last ∧ last ≤ 2147483647) ∧ (over = true ∧ cur = 0 ∧ prop = 0 ∨ over = false ∧ (cur ≠ 0 ∧ cur = last ∧ prop = 0 ∨ cur = 0 ∧ last < prop ∧ prop ≤ 2147483647))) :
    ACall Try.prog 42 [.agg #[.int .i64 last, .int .i64 cur, .int .i64 prop, .bool over]] s (.int .i64 0) s := by

  obtain ⟨hl, ⟨rfl, rfl, rfl⟩ | ⟨rfl, ⟨h1, rfl, rfl⟩ | ⟨rfl, h1, h2⟩⟩⟩ := hm'
  all_goals (refine ACall.make Try.func42 rfl (by kernel_rfl) (by decide) rfl (fun N hN => ?_); have hT : Top N _ := hN; (repeat' (first | (apply Ab.K.ev; exact ev_) | (apply Ab.K.aops; first | (apply Xg.s; constructor) | apply Ab.S.guardG) | (apply Ab.K.aop; first | (first | (apply Ab.O.boxA (N + 0); (case hx => exact ev_); (case hid => exact frees_)) | (apply Ab.O.allocA (N + 0); (case hid => exact frees_); (case hp => rfl)) | (apply Ab.O.allocA (N + 1); (case hid => exact frees_); (case hp => rfl))) | (apply Og.s; constructor)) | (apply Ab.K.gk; first | (apply Xg.s; constructor) | (apply Ab.gY; case hw => assumption) | (apply Ab.gNT; case hw => assumption) | (apply Ab.gNF; case hw => assumption) | ((first | apply Ab.gD | apply Ab.gDN); all_goals (intro _ _; (first | contradiction | (exfalso; omega) | skip)))) | (apply Ab.K.awp; first | (apply Xg.s; constructor)) | (apply Ab.K.at_; exact at_) | (apply Ab.K.acall; first | assumption | first | exact count_yes (by assumption) | exact count_no (by assumption)) | (apply Ab.Rg.mk; omega) | (apply Ab.Lt.mk; first | decide | (simp; done) | (simp; omega) | fail) | (apply Ab.Get.mk; first | rfl | fail) | (apply Ab.Nm.mk; first | exact nrm_) | (apply Xg.s; constructor) | (apply Ab.asm; assumption) | rfl | infer_instance | decide)); (all_goals ((first | apply RetQ.ret | apply RetQ.normal); (case he => exact evr_); (case hg => rfl))); (all_goals first | rfl | (apply Keeps.fr; (case h => exact fr_); (case hv => exact plR.nm rfl)) | fail))
theorem check_ok {s : AHeap} {h : H} (hm : h.May) : ACall Try.prog 42 [hv h] s (.int .i64 0) s := check_ok' hm

theorem new_ok {s : AHeap} {last limit : Int} (h1 : 0 ≤ last ∧ last ≤ 2147483647) (h2 : 1 ≤ limit ∧ limit ≤ 2147483647) : ACall Try.prog 51 [.int .i64 last, .int .i64 limit] s (.tuple #[hv (hnew last limit), .int .i64 0]) s := by
  unfold hnew
  by_cases h3 : limit ≤ last
  case' pos => rw [if_pos h3]
  case' neg => rw [if_neg h3]
  all_goals (refine ACall.make Try.func51 rfl (by kernel_rfl) (by decide) rfl (fun N hN => ?_); have hT : Top N _ := hN; (repeat' (first | (apply Ab.K.ev; exact ev_) | (apply Ab.K.aops; first | (apply Xg.s; constructor) | apply Ab.S.guardG) | (apply Ab.K.aop; first | (first | (apply Ab.O.boxA (N + 0); (case hx => exact ev_); (case hid => exact frees_)) | (apply Ab.O.allocA (N + 0); (case hid => exact frees_); (case hp => rfl)) | (apply Ab.O.allocA (N + 1); (case hid => exact frees_); (case hp => rfl))) | (apply Og.s; constructor)) | (apply Ab.K.gk; first | (apply Xg.s; constructor) | (apply Ab.gY; case hw => assumption) | (apply Ab.gNT; case hw => assumption) | (apply Ab.gNF; case hw => assumption) | ((first | apply Ab.gD | apply Ab.gDN); all_goals (intro _ _; (first | contradiction | (exfalso; omega) | skip)))) | (apply Ab.K.awp; first | (apply Xg.s; constructor)) | (apply Ab.K.at_; exact at_) | (apply Ab.K.acall; first | assumption | first | exact count_yes (by assumption) | exact count_no (by assumption)) | (apply Ab.Rg.mk; omega) | (apply Ab.Lt.mk; first | decide | (simp; done) | (simp; omega) | fail) | (apply Ab.Get.mk; first | rfl | fail) | (apply Ab.Nm.mk; first | exact nrm_) | (apply Xg.s; constructor) | (apply Ab.asm; assumption) | rfl | infer_instance | decide)); (all_goals ((first | apply RetQ.ret | apply RetQ.normal); (case he => exact evr_); (case hg => rfl))); (all_goals first | rfl | (apply Keeps.fr; (case h => exact fr_); (case hv => exact plR.nm rfl)) | fail))
theorem new_bad {s : AHeap} {limit : Int} (h2 : ¬ (1 ≤ limit ∧ limit ≤ 2147483647)) : ACall Try.prog 51 [.int .i64 0, .int .i64 limit] s (.tuple #[.agg #[.int .i64 0, .int .i64 0, .int .i64 0, .bool false], .int .i64 1]) s := by
  have h1 : (0 : Int) ≤ 0 ∧ (0 : Int) ≤ 2147483647 := by omega
  refine ACall.make Try.func51 rfl (by kernel_rfl) (by decide) rfl (fun N hN => ?_)
  have hT : Top N s := hN
  (repeat' (first | (apply Ab.K.ev; exact ev_) | (apply Ab.K.aops; first | (apply Xg.s; constructor) | apply Ab.S.guardG) | (apply Ab.K.aop; first | (first | (apply Ab.O.boxA (N + 0); (case hx => exact ev_); (case hid => exact frees_)) | (apply Ab.O.allocA (N + 0); (case hid => exact frees_); (case hp => rfl)) | (apply Ab.O.allocA (N + 1); (case hid => exact frees_); (case hp => rfl))) | (apply Og.s; constructor)) | (apply Ab.K.gk; first | (apply Xg.s; constructor) | (apply Ab.gY; case hw => assumption) | (apply Ab.gNT; case hw => assumption) | (apply Ab.gNF; case hw => assumption) | ((first | apply Ab.gD | apply Ab.gDN); all_goals (intro _ _; (first | contradiction | (exfalso; omega) | skip)))) | (apply Ab.K.awp; first | (apply Xg.s; constructor)) | (apply Ab.K.at_; exact at_) | (apply Ab.K.acall; first | assumption | first | exact count_yes (by assumption) | exact count_no (by assumption)) | (apply Ab.Rg.mk; omega) | (apply Ab.Lt.mk; first | decide | (simp; done) | (simp; omega) | fail) | (apply Ab.Get.mk; first | rfl | fail) | (apply Ab.Nm.mk; first | exact nrm_) | (apply Xg.s; constructor) | (apply Ab.asm; assumption) | rfl | infer_instance | decide))
  all_goals ((first | apply RetQ.ret | apply RetQ.normal); (case he => exact evr_); (case hg => rfl))
  all_goals first | rfl | (apply Keeps.fr; (case h => exact fr_); (case hv => exact plR.nm rfl))


theorem hello_ok' {s : AHeap} {last cur prop p limit : Int} {over : Bool} (hm' : (0 ≤ last ∧ last ≤ 2147483647) ∧ (over = true ∧ cur = 0 ∧ prop = 0 ∨ over = false ∧ (cur ≠ 0 ∧ cur = last ∧ prop = 0 ∨ cur = 0 ∧ last < prop ∧ prop ≤ 2147483647))) (h2 : 1 ≤ limit ∧ limit ≤ 2147483647) :
    ACall Try.prog 34 [.agg #[.int .i64 last, .int .i64 cur, .int .i64 prop, .bool over], .int .i64 p, .int .i64 limit] s (.tuple #[hv (hello limit ⟨last, cur, prop, over⟩ p).1, .bool (hello limit ⟨last, cur, prop, over⟩ p).2, .bool (helE limit ⟨last, cur, prop, over⟩ p), .int .i64 0]) s := by
  refine if h3 : over = true ∨ p < 1 ∨ limit < p then ?y1 else ?n1
  case' y1 =>
    simp only [hello, helE, if_pos h3]
    cases over
    case' false =>
      have h4 : p < 1 ∨ limit < p := h3.resolve_left (by simp)
      clear h3
      by_cases h5 : p < 1
  case' n1 =>
    obtain rfl : over = false := by cases over with
      | false => rfl
      | true => exact absurd (.inl rfl) h3
    have h4 : 1 ≤ p ∧ p ≤ limit := ⟨Decidable.byContradiction fun e => h3 (.inr (.inl (by omega))), Decidable.byContradiction fun e => h3 (.inr (.inr (by omega)))⟩
    clear h3
    have h3 : ¬ (false = true ∨ p < 1 ∨ limit < p) := by rintro (e | e | e) <;> first | cases e | omega
    refine if h5 : cur = 0 then ?y2 else ?n2
    case' y2 =>
      by_cases h6 : prop < p
      case' pos => simp only [hello, helE, if_neg h3, if_pos h5, if_pos h6]
      case' neg => simp only [hello, helE, if_neg h3, if_pos h5, if_neg h6]
    case' n2 =>
      by_cases h6 : cur < p
      case' pos => simp only [hello, helE, if_neg h3, if_neg h5, if_pos h6]
      case' neg => simp only [hello, helE, if_neg h3, if_neg h5, if_neg h6]
    all_goals clear h3
  all_goals (refine ACall.make Try.func34 rfl (by kernel_rfl) (by decide) rfl (fun N hN => ?_); have hT : Top N _ := hN; (repeat' (first | (apply Ab.K.ev; exact ev_) | (apply Ab.K.aops; first | (apply Xg.s; constructor) | apply Ab.S.guardG) | (apply Ab.K.aop; first | (first | (apply Ab.O.boxA (N + 0); (case hx => exact ev_); (case hid => exact frees_)) | (apply Ab.O.allocA (N + 0); (case hid => exact frees_); (case hp => rfl)) | (apply Ab.O.allocA (N + 1); (case hid => exact frees_); (case hp => rfl))) | (apply Og.s; constructor)) | (apply Ab.K.gk; first | (apply Xg.s; constructor) | (apply Ab.gY; case hw => assumption) | (apply Ab.gNT; case hw => assumption) | (apply Ab.gNF; case hw => assumption) | ((first | apply Ab.gD | apply Ab.gDN); all_goals (intro _ _; (first | contradiction | (exfalso; omega) | skip)))) | (apply Ab.K.aopsD; first | (apply Ab.D.q0t; (case hw => rfl); (case hot => rfl)) | (apply Ab.D.w1t; (case hw => rfl); (case hot => rfl)) | (apply Ab.D.q0; (case hw => rfl); intro _ _) | (apply Ab.D.w1n; (case hw => rfl); intro _ _) | (apply Ab.D.w2n; (case hw => rfl); intro _ _) | (apply Xg.s; constructor) | fail | apply Ab.D.guardG) | (apply Ab.K.aopsP; first | apply Ab.Pd.nil | (apply Ab.Pd.q; (case hi => rfl)) | (apply Ab.Pd.z; (case hi => rfl)) | (apply Ab.Pd.zU; (case hi => rfl); (case hd => rfl); (case hb => (exact ev_; done))) | (apply Ab.Pd.zG; (case hi => rfl); (case hd => rfl)) | (apply Ab.Pd.st; (case hi => rfl)) | (apply Ab.Pd.qU; (case hi => rfl); (case hd => rfl); (case hb => (exact ev_; done))) | (apply Ab.Pd.qG; (case hi => rfl); (case hd => rfl)) | (apply Ab.Pd.stU; (case hi => rfl); (case hd => rfl); (case hb => (exact ev_; done))) | (apply Ab.Pd.stG; (case hi => rfl); (case hd => rfl))) | (apply Ab.Pd.qs; intro _ _) | (apply Ab.Pd.nxE; (case hE => rfl)) | (apply Ab.Pd.nxR; (case hr => (repeat' (first | exact Ab.Sub.del _ _ | assumption | (apply Ab.Sub.setI; (case hn => simp)) | (apply Ab.Sub.setF; (case hn => exact free_)) | exact (Ab.Sub.del _ _).trans (by assumption))))) | exact ⟨rfl, rfl⟩ | (apply Ab.K.awp; first | (apply AWp.draw (id := 7) [[], [], [], [2], [1, 2, 3], [0], [0, 1, 2, 3, 4, 5], [0, 1, 2, 3, 4, 5, 6], [0, 1, 2, 3, 4, 5, 6, 7]] [(5, [N + 1])] (by kernel_rfl) (by kernel_rfl) (by simp [apartW, unordB, cC] <;> omega)) | (apply AWp.draw (id := 10) [[], [], [], [2], [1, 2, 3], [0], [0, 1, 2, 3, 4, 5], [0, 1, 2, 3, 4, 5, 6], [0, 1, 2, 3, 4, 5, 6, 7]] [(5, [N + 1])] (by kernel_rfl) (by kernel_rfl) (by simp [apartW, unordB, cC] <;> omega)) | (apply Xg.s; constructor)) | (apply Ab.K.at_; exact at_) | (apply Ab.K.acall; first | assumption | first | exact count_yes (by assumption) | exact count_no (by assumption) | exact check_ok' (by assumption)) | (apply Ab.Rg.mk; omega) | (apply Ab.Lt.mk; first | decide | (simp; done) | (simp; omega) | fail) | (apply Ab.Get.mk; first | rfl | fail) | (apply Ab.Nm.mk; first | exact nrm_) | (apply Xg.s; constructor) | (apply Ab.asm; assumption) | rfl | infer_instance | decide)); (all_goals ((first | apply RetQ.ret | apply RetQ.normal); (case he => exact evr_); (case hg => rfl))); (all_goals first | rfl | (apply Keeps.fr; (case h => exact fr_); (case hv => exact plR.nm rfl)) | (simp only [resV, decide_true])))




theorem welcome_ok' {s : AHeap} {last cur prop p : Int} {over : Bool} (hm' : (0 ≤ last ∧ last ≤ 2147483647) ∧ (over = true ∧ cur = 0 ∧ prop = 0 ∨ over = false ∧ (cur ≠ 0 ∧ cur = last ∧ prop = 0 ∨ cur = 0 ∧ last < prop ∧ prop ≤ 2147483647))) :
    ACall Try.prog 35 [.agg #[.int .i64 last, .int .i64 cur, .int .i64 prop, .bool over], .int .i64 p] s (.tuple #[hv (welcome ⟨last, cur, prop, over⟩ p), .bool (welE prop p), .int .i64 0]) s := by
  refine if h1 : prop = 0 ∨ p ≠ prop then ?y1 else ?n1
  case' y1 =>
    simp only [welcome, welE, if_pos h1]
    by_cases h2 : prop = 0
    case' neg => have h3 : p ≠ prop := h1.resolve_left h2
  case' n1 => simp only [welcome, welE, if_neg h1]
  all_goals (refine ACall.make Try.func35 rfl (by kernel_rfl) (by decide) rfl (fun N hN => ?_); have hT : Top N _ := hN; (repeat' (first | (apply Ab.K.ev; exact ev_) | (apply Ab.K.aops; first | (apply Xg.s; constructor) | apply Ab.S.guardG) | (apply Ab.K.aop; first | (first | (apply Ab.O.boxA (N + 0); (case hx => exact ev_); (case hid => exact frees_)) | (apply Ab.O.allocA (N + 0); (case hid => exact frees_); (case hp => rfl)) | (apply Ab.O.allocA (N + 1); (case hid => exact frees_); (case hp => rfl))) | (apply Og.s; constructor)) | (apply Ab.K.gk; first | (apply Xg.s; constructor) | (apply Ab.gY; case hw => assumption) | (apply Ab.gNT; case hw => assumption) | (apply Ab.gNF; case hw => assumption) | ((first | apply Ab.gD | apply Ab.gDN); all_goals (intro _ _; (first | contradiction | (exfalso; omega) | skip)))) | (apply Ab.K.awp; first | (apply Xg.s; constructor)) | (apply Ab.K.at_; exact at_) | (apply Ab.K.acall; first | assumption | first | exact count_yes (by assumption) | exact count_no (by assumption) | exact check_ok' (by assumption)) | (apply Ab.Rg.mk; omega) | (apply Ab.Lt.mk; first | decide | (simp; done) | (simp; omega) | fail) | (apply Ab.Get.mk; first | rfl | fail) | (apply Ab.Nm.mk; first | exact nrm_) | (apply Xg.s; constructor) | (apply Ab.asm; assumption) | rfl | infer_instance | decide)); (all_goals ((first | apply RetQ.ret | apply RetQ.normal); (case he => exact evr_); (case hg => rfl))); (all_goals first | rfl | (apply Keeps.fr; (case h => exact fr_); (case hv => exact plR.nm rfl)) | fail))
theorem close_ok' {s : AHeap} {last cur prop limit : Int} {over : Bool} (hm' : (0 ≤ last ∧ last ≤ 2147483647) ∧ (over = true ∧ cur = 0 ∧ prop = 0 ∨ over = false ∧ (cur ≠ 0 ∧ cur = last ∧ prop = 0 ∨ cur = 0 ∧ last < prop ∧ prop ≤ 2147483647))) (h2 : 1 ≤ limit ∧ limit ≤ 2147483647) :
    ACall Try.prog 53 [.agg #[.int .i64 last, .int .i64 cur, .int .i64 prop, .bool over], .int .i64 limit] s (.tuple #[hv (close limit ⟨last, cur, prop, over⟩), .int .i64 0]) s := by
  unfold close
  have hl := hm'.1
  by_cases h1 : cur = 0
  case' pos => rw [if_pos h1]
  case' neg => rw [if_neg h1]
  all_goals (refine ACall.make Try.func53 rfl (by kernel_rfl) (by decide) rfl (fun N hN => ?_); have hT : Top N _ := hN; (repeat' (first | (apply Ab.K.ev; exact ev_) | (apply Ab.K.aops; first | (apply Xg.s; constructor) | apply Ab.S.guardG) | (apply Ab.K.aop; first | (first | (apply Ab.O.boxA (N + 0); (case hx => exact ev_); (case hid => exact frees_)) | (apply Ab.O.allocA (N + 0); (case hid => exact frees_); (case hp => rfl)) | (apply Ab.O.allocA (N + 1); (case hid => exact frees_); (case hp => rfl))) | (apply Og.s; constructor)) | (apply Ab.K.gk; first | (apply Xg.s; constructor) | (apply Ab.gY; case hw => assumption) | (apply Ab.gNT; case hw => assumption) | (apply Ab.gNF; case hw => assumption) | ((first | apply Ab.gD | apply Ab.gDN); all_goals (intro _ _; (first | contradiction | (exfalso; omega) | skip)))) | (apply Ab.K.awp; first | (apply Xg.s; constructor)) | (apply Ab.K.at_; exact at_) | (apply Ab.K.acall; first | assumption | first | exact count_yes (by assumption) | exact count_no (by assumption) | exact check_ok' (by assumption) | exact new_ok (by assumption) (by assumption)) | (apply Ab.Rg.mk; omega) | (apply Ab.Lt.mk; first | decide | (simp; done) | (simp; omega) | fail) | (apply Ab.Get.mk; first | rfl | fail) | (apply Ab.Nm.mk; first | exact nrm_) | (apply Xg.s; constructor) | (apply Ab.asm; assumption) | rfl | infer_instance | decide)); (all_goals ((first | apply RetQ.ret | apply RetQ.normal); (case he => exact evr_); (case hg => rfl))); (all_goals first | rfl | (apply Keeps.fr; (case h => exact fr_); (case hv => exact plR.nm rfl)) | fail))

/-! the document's -/
theorem rnew_ok {s : AHeap} {last limit : Int} (h1 : 0 ≤ last ∧ last ≤ 2147483647) (h2 : 1 ≤ limit ∧ limit ≤ 2147483647) : ACall Try.prog 54 [.int .i64 last, .int .i64 limit] s (hv (hnew last limit)) s := by
  unfold hnew
  by_cases h3 : limit ≤ last
  case' pos => rw [if_pos h3]
  case' neg => rw [if_neg h3]
  all_goals (refine ACall.make Try.func54 rfl (by kernel_rfl) (by decide) rfl (fun N hN => ?_); have hT : Top N _ := hN; (repeat' (first | (apply Ab.K.ev; exact ev_) | (apply Ab.K.aops; first | (apply Xg.s; constructor) | apply Ab.S.guardG) | (apply Ab.K.aop; first | (first | (apply Ab.O.boxA (N + 0); (case hx => exact ev_); (case hid => exact frees_)) | (apply Ab.O.allocA (N + 0); (case hid => exact frees_); (case hp => rfl)) | (apply Ab.O.allocA (N + 1); (case hid => exact frees_); (case hp => rfl))) | (apply Og.s; constructor)) | (apply Ab.K.gk; first | (apply Xg.s; constructor) | (apply Ab.gY; case hw => assumption) | (apply Ab.gNT; case hw => assumption) | (apply Ab.gNF; case hw => assumption) | ((first | apply Ab.gD | apply Ab.gDN); all_goals (intro _ _; (first | contradiction | (exfalso; omega) | skip)))) | (apply Ab.K.awp; first | (apply Xg.s; constructor)) | (apply Ab.K.at_; exact at_) | (apply Ab.K.acall; first | assumption | first | exact count_yes (by assumption) | exact count_no (by assumption) | exact check_ok' (by assumption) | exact new_ok (by assumption) (by assumption)) | (apply Ab.Rg.mk; omega) | (apply Ab.Lt.mk; first | decide | (simp; done) | (simp; omega) | fail) | (apply Ab.Get.mk; first | rfl | fail) | (apply Ab.Nm.mk; first | exact nrm_) | (apply Xg.s; constructor) | (apply Ab.asm; assumption) | rfl | infer_instance | decide)); (all_goals ((first | apply RetQ.ret | apply RetQ.normal); (case he => exact evr_); (case hg => rfl))); (all_goals first | rfl | (apply Keeps.fr; (case h => exact fr_); (case hv => exact plR.nm rfl)) | fail))
theorem rwelcome_ok {s : AHeap} {last cur prop p : Int} {over : Bool} (hm' : (0 ≤ last ∧ last ≤ 2147483647) ∧ (over = true ∧ cur = 0 ∧ prop = 0 ∨ over = false ∧ (cur ≠ 0 ∧ cur = last ∧ prop = 0 ∨ cur = 0 ∧ last < prop ∧ prop ≤ 2147483647))) :
    ACall Try.prog 46 [.agg #[.int .i64 last, .int .i64 cur, .int .i64 prop, .bool over], .int .i64 p] s (.tuple #[hv (welcome ⟨last, cur, prop, over⟩ p), .bool (welE prop p)]) s := by
  have hp : 0 ≤ prop := by omega
  refine if h1 : prop = 0 ∨ p ≠ prop then ?y1 else ?n1
  case' y1 =>
    simp only [welcome, welE, if_pos h1]
    by_cases h2 : prop = 0
    case' neg => have h3 : p ≠ prop := h1.resolve_left h2
  case' n1 => simp only [welcome, welE, if_neg h1]
  all_goals clear hm'
  all_goals (refine ACall.make Try.func46 rfl (by kernel_rfl) (by decide) rfl (fun N hN => ?_); have hT : Top N _ := hN; (repeat' (first | (apply Ab.K.ev; exact ev_) | (apply Ab.K.aops; first | (apply Xg.s; constructor) | apply Ab.S.guardG) | (apply Ab.K.aop; first | (first | (apply Ab.O.boxA (N + 0); (case hx => exact ev_); (case hid => exact frees_)) | (apply Ab.O.allocA (N + 0); (case hid => exact frees_); (case hp => rfl)) | (apply Ab.O.allocA (N + 1); (case hid => exact frees_); (case hp => rfl))) | (apply Og.s; constructor)) | (apply Ab.K.gk; first | (apply Xg.s; constructor) | (apply Ab.gY; case hw => assumption) | (apply Ab.gNT; case hw => assumption) | (apply Ab.gNF; case hw => assumption) | ((first | apply Ab.gD | apply Ab.gDN); all_goals (intro _ _; (first | contradiction | (exfalso; omega) | skip)))) | (apply Ab.K.awp; first | (apply Xg.s; constructor)) | (apply Ab.K.at_; exact at_) | (apply Ab.K.acall; first | assumption | first | exact count_yes (by assumption) | exact count_no (by assumption) | exact check_ok' (by assumption) | exact new_ok (by assumption) (by assumption)) | (apply Ab.Rg.mk; omega) | (apply Ab.Lt.mk; first | decide | (simp; done) | (simp; omega) | fail) | (apply Ab.Get.mk; first | rfl | fail) | (apply Ab.Nm.mk; first | exact nrm_) | (apply Xg.s; constructor) | (apply Ab.asm; assumption) | rfl | infer_instance | decide)); (all_goals ((first | apply RetQ.ret | apply RetQ.normal); (case he => exact evr_); (case hg => rfl))); (all_goals first | rfl | (apply Keeps.fr; (case h => exact fr_); (case hv => exact plR.nm rfl)) | fail))

theorem rhello_ok {s : AHeap} {last cur prop p limit : Int} {over : Bool} (hm' : (0 ≤ last ∧ last ≤ 2147483647) ∧ (over = true ∧ cur = 0 ∧ prop = 0 ∨ over = false ∧ (cur ≠ 0 ∧ cur = last ∧ prop = 0 ∨ cur = 0 ∧ last < prop ∧ prop ≤ 2147483647))) (h2 : 1 ≤ limit ∧ limit ≤ 2147483647) :
    ACall Try.prog 45 [.agg #[.int .i64 last, .int .i64 cur, .int .i64 prop, .bool over], .int .i64 p, .int .i64 limit] s (.tuple #[hv (hello limit ⟨last, cur, prop, over⟩ p).1, .bool (hello limit ⟨last, cur, prop, over⟩ p).2, .bool (helE limit ⟨last, cur, prop, over⟩ p)]) s := by
  have hc0 : 0 ≤ cur := by omega
  clear hm'
  refine if h3 : over = true ∨ p < 1 ∨ limit < p then ?y1 else ?n1
  case' y1 =>
    simp only [hello, helE, if_pos h3]
    cases over
    case' false =>
      have h4 : p < 1 ∨ limit < p := h3.resolve_left (by simp)
      clear h3
      by_cases h5 : p < 1
  case' n1 =>
    obtain rfl : over = false := by cases over with
      | false => rfl
      | true => exact absurd (.inl rfl) h3
    have h4 : 1 ≤ p ∧ p ≤ limit := ⟨Decidable.byContradiction fun e => h3 (.inr (.inl (by omega))), Decidable.byContradiction fun e => h3 (.inr (.inr (by omega)))⟩
    clear h3
    have h3 : ¬ (false = true ∨ p < 1 ∨ limit < p) := by rintro (e | e | e) <;> first | cases e | omega
    refine if h5 : cur = 0 then ?y2 else ?n2
    case' y2 =>
      by_cases h6 : prop < p
      case' pos => simp only [hello, helE, if_neg h3, if_pos h5, if_pos h6]
      case' neg => simp only [hello, helE, if_neg h3, if_pos h5, if_neg h6]
    case' n2 =>
      by_cases h6 : cur < p
      case' pos => simp only [hello, helE, if_neg h3, if_neg h5, if_pos h6]
      case' neg => simp only [hello, helE, if_neg h3, if_neg h5, if_neg h6]
    all_goals clear h3
  all_goals (refine ACall.make Try.func45 rfl (by kernel_rfl) (by decide) rfl (fun N hN => ?_); have hT : Top N _ := hN; (repeat' (first | (apply Ab.K.ev; exact ev_) | (apply Ab.K.aops; first | (apply Xg.s; constructor) | apply Ab.S.guardG) | (apply Ab.K.aop; first | (first | (apply Ab.O.boxA (N + 0); (case hx => exact ev_); (case hid => exact frees_)) | (apply Ab.O.allocA (N + 0); (case hid => exact frees_); (case hp => rfl)) | (apply Ab.O.allocA (N + 1); (case hid => exact frees_); (case hp => rfl))) | (apply Og.s; constructor)) | (apply Ab.K.gk; first | (apply Xg.s; constructor) | (apply Ab.gY; case hw => assumption) | (apply Ab.gNT; case hw => assumption) | (apply Ab.gNF; case hw => assumption) | ((first | apply Ab.gD | apply Ab.gDN); all_goals (intro _ _; (first | contradiction | (exfalso; omega) | skip)))) | (apply Ab.K.aopsD; first | (apply Ab.D.q0t; (case hw => rfl); (case hot => rfl)) | (apply Ab.D.w1t; (case hw => rfl); (case hot => rfl)) | (apply Ab.D.q0; (case hw => rfl); intro _ _) | (apply Ab.D.w1n; (case hw => rfl); intro _ _) | (apply Ab.D.w2n; (case hw => rfl); intro _ _) | (apply Xg.s; constructor) | fail | apply Ab.D.guardG) | (apply Ab.K.aopsP; first | apply Ab.Pd.nil | (apply Ab.Pd.q; (case hi => rfl)) | (apply Ab.Pd.z; (case hi => rfl)) | (apply Ab.Pd.zU; (case hi => rfl); (case hd => rfl); (case hb => (exact ev_; done))) | (apply Ab.Pd.zG; (case hi => rfl); (case hd => rfl)) | (apply Ab.Pd.st; (case hi => rfl)) | (apply Ab.Pd.qU; (case hi => rfl); (case hd => rfl); (case hb => (exact ev_; done))) | (apply Ab.Pd.qG; (case hi => rfl); (case hd => rfl)) | (apply Ab.Pd.stU; (case hi => rfl); (case hd => rfl); (case hb => (exact ev_; done))) | (apply Ab.Pd.stG; (case hi => rfl); (case hd => rfl))) | (apply Ab.Pd.qs; intro _ _) | (apply Ab.Pd.nxE; (case hE => rfl)) | (apply Ab.Pd.nxR; (case hr => (repeat' (first | exact Ab.Sub.del _ _ | assumption | (apply Ab.Sub.setI; (case hn => simp)) | (apply Ab.Sub.setF; (case hn => exact free_)) | exact (Ab.Sub.del _ _).trans (by assumption))))) | exact ⟨rfl, rfl⟩ | (apply Ab.K.awp; first | (apply AWp.draw (id := 6) [[], [], [], [2], [1, 2, 3], [0], [0, 1, 2, 3, 4, 5], [0, 1, 2, 3, 4, 5, 6]] [(5, [N + 1])] (by kernel_rfl) (by kernel_rfl) (by simp [apartW, unordB, cC] <;> omega)) | (apply AWp.draw (id := 9) [[], [], [], [2], [1, 2, 3], [0], [0, 1, 2, 3, 4, 5], [0, 1, 2, 3, 4, 5, 6]] [(5, [N + 1])] (by kernel_rfl) (by kernel_rfl) (by simp [apartW, unordB, cC] <;> omega)) | (apply Xg.s; constructor)) | (apply Ab.K.at_; exact at_) | (apply Ab.K.acall; first | assumption | first | exact count_yes (by assumption) | exact count_no (by assumption) | exact check_ok' (by assumption) | exact new_ok (by assumption) (by assumption)) | (apply Ab.Rg.mk; omega) | (apply Ab.Lt.mk; first | decide | (simp; done) | (simp; omega) | fail) | (apply Ab.Get.mk; first | rfl | fail) | (apply Ab.Nm.mk; first | exact nrm_) | (apply Xg.s; constructor) | (apply Ab.asm; assumption) | rfl | infer_instance | decide)); (all_goals ((first | apply RetQ.ret | apply RetQ.normal); (case he => exact evr_); (case hg => rfl))); (all_goals first | rfl | (apply Keeps.fr; (case h => exact fr_); (case hv => exact plR.nm rfl)) | (simp only [resV, decide_true])))
theorem rclose_ok {s : AHeap} {last cur prop limit : Int} {over : Bool} (hl : 0 ≤ last ∧ last ≤ 2147483647) (hc0 : 0 ≤ cur) (h2 : 1 ≤ limit ∧ limit ≤ 2147483647) :
    ACall Try.prog 56 [.agg #[.int .i64 last, .int .i64 cur, .int .i64 prop, .bool over], .int .i64 limit] s (hv (close limit ⟨last, cur, prop, over⟩)) s := by
  unfold close
  by_cases h1 : cur = 0
  case' pos => rw [if_pos h1]
  case' neg => rw [if_neg h1]
  all_goals (refine ACall.make Try.func56 rfl (by kernel_rfl) (by decide) rfl (fun N hN => ?_); have hT : Top N _ := hN; (repeat' (first | (apply Ab.K.ev; exact ev_) | (apply Ab.K.aops; first | (apply Xg.s; constructor) | apply Ab.S.guardG) | (apply Ab.K.aop; first | (first | (apply Ab.O.boxA (N + 0); (case hx => exact ev_); (case hid => exact frees_)) | (apply Ab.O.allocA (N + 0); (case hid => exact frees_); (case hp => rfl)) | (apply Ab.O.allocA (N + 1); (case hid => exact frees_); (case hp => rfl))) | (apply Og.s; constructor)) | (apply Ab.K.gk; first | (apply Xg.s; constructor) | (apply Ab.gY; case hw => assumption) | (apply Ab.gNT; case hw => assumption) | (apply Ab.gNF; case hw => assumption) | ((first | apply Ab.gD | apply Ab.gDN); all_goals (intro _ _; (first | contradiction | (exfalso; omega) | skip)))) | (apply Ab.K.awp; first | (apply Xg.s; constructor)) | (apply Ab.K.at_; exact at_) | (apply Ab.K.acall; first | assumption | exact rnew_ok (by assumption) (by assumption)) | (apply Ab.Rg.mk; omega) | (apply Ab.Lt.mk; first | decide | (simp; done) | (simp; omega) | fail) | (apply Ab.Get.mk; first | rfl | fail) | (apply Ab.Nm.mk; first | exact nrm_) | (apply Xg.s; constructor) | (apply Ab.asm; assumption) | rfl | infer_instance | decide)); (all_goals ((first | apply RetQ.ret | apply RetQ.normal); (case he => exact evr_); (case hg => rfl))); (all_goals first | rfl | (apply Keeps.fr; (case h => exact fr_); (case hv => exact plR.nm rfl)) | (simp only [resV, decide_true])))
theorem tmod_at (a : Int) {n : Nat} (hn : n ≠ 0) : -(n : Int) < a.tmod n ∧ a.tmod n < n ∧ ((wat a n : Nat) : Int) = if a.tmod n < 0 then a.tmod n + n else a.tmod n := by
  have h0 : (0 : Int) < n := by omega
  have e1 := Int.emod_nonneg a (show (n : Int) ≠ 0 by omega)
  have e2 := Int.emod_lt_of_pos a h0
  have e3 : ((wat a n : Nat) : Int) = a % n := by unfold wat; omega
  rw [e3]
  by_cases ha : 0 ≤ a
  · rw [Int.tmod_eq_emod_of_nonneg ha, if_neg (by omega)]; exact ⟨by omega, e2, rfl⟩
  · obtain ⟨b, rfl⟩ : ∃ b, a = -b := ⟨-a, by omega⟩
    have f1 := Int.emod_nonneg b (show (n : Int) ≠ 0 by omega)
    have f2 := Int.emod_lt_of_pos b h0
    rw [Int.neg_tmod, Int.tmod_eq_emod_of_nonneg (show 0 ≤ b by omega)]
    have f3 : (-b) % (n : Int) = (-(b % n)) % n := by
      have e := Int.emod_add_mul_ediv b n
      have : -b = -(b % n) + n * (-(b / n)) := by rw [Int.mul_neg]; omega
      rw [this, Int.add_mul_emod_self_left]
    by_cases hm : b % n = 0
    · rw [f3, hm, if_neg (by omega)]; simp; omega
    · refine ⟨by omega, by omega, ?_⟩
      rw [if_pos (by omega), f3, ← Int.add_emod_right, Int.emod_eq_of_lt (by omega) (by omega)]
theorem at_ok {s : AHeap} {a : Int} {n : Nat} (hn : n ≠ 0) (hb : n ≤ 1000000) : ACall Try.prog 65 [.int .i64 a, .int .i64 n] s (.int .i64 (wat a n : Nat)) s := by
  obtain ⟨h1, h2, h3⟩ := tmod_at a hn
  by_cases h4 : a.tmod n < 0
  case' pos => rw [if_pos h4] at h3
  case' neg => rw [if_neg h4] at h3
  all_goals (refine ACall.make Try.func65 rfl (by kernel_rfl) (by decide) rfl (fun N hN => ?_); have hT : Top N _ := hN; (repeat' (first | (apply Ab.K.ev; exact ev_) | (apply Ab.K.aops; first | (apply Xg.s; constructor) | apply Ab.S.guardG) | (apply Ab.K.aop; first | (first | (apply Ab.O.boxA (N + 0); (case hx => exact ev_); (case hid => exact frees_)) | (apply Ab.O.allocA (N + 0); (case hid => exact frees_); (case hp => rfl)) | (apply Ab.O.allocA (N + 1); (case hid => exact frees_); (case hp => rfl))) | (apply Og.s; constructor)) | (apply Ab.K.gk; first | (apply Xg.s; constructor) | (apply Ab.gY; case hw => assumption) | (apply Ab.gNT; case hw => assumption) | (apply Ab.gNF; case hw => assumption) | ((first | apply Ab.gD | apply Ab.gDN); all_goals (intro _ _; (first | contradiction | (exfalso; omega) | skip)))) | (apply Ab.K.awp; first | (apply Xg.s; constructor)) | (apply Ab.K.at_; exact at_) | (apply Ab.K.acall; first | assumption | exact rnew_ok (by assumption) (by assumption)) | (apply Ab.Rg.mk; omega) | (apply Ab.Lt.mk; first | decide | (simp; done) | (simp; omega) | fail) | (apply Ab.Get.mk; first | rfl | fail) | (apply Ab.Nm.mk; first | exact nrm_) | (apply Xg.s; constructor) | (apply Ab.asm; assumption) | rfl | infer_instance | decide)); (all_goals ((first | apply RetQ.ret | apply RetQ.normal); (case he => exact evr_); (case hg => rfl))); (all_goals first | rfl | (apply Keeps.fr; (case h => exact fr_); (case hv => exact plR.nm rfl)) | (simp only [resV, h3])))
end Go.Proofs.Ytoiplbackllgfaa

/- lines: checks of ends and takers, by the program and by the document. -/
namespace Go.Proofs.Ytoiplbackllgfaa
set_option linter.unusedVariables false
set_option linter.unusedSimpArgs false
set_option linter.unusedSectionVars false
open Go.RowKit Ab HP
attribute [local irreducible] AOps AOpsD AOp AWp put nargs AHeap.set At Free ACall ACallE thenQ blockQ roundQ RetQ RetE Src Gr
theorem count_dec {s : AHeap} {n : Int} : ACall Try.prog 31 [.int .i64 n] s (.bool (decide (1 ≤ n ∧ n ≤ 2147483647))) s := by
  by_cases h : 1 ≤ n ∧ n ≤ 2147483647
  case' pos => rw [decide_eq_true h]
  case' neg => rw [decide_eq_false h]
  all_goals refine ACall.make Try.func31 rfl (by kernel_rfl) (by decide) rfl (fun N hN => ?_)
  all_goals (repeat' (first | (apply Ab.K.ev; exact ev_) | (apply Ab.K.aops; first | (apply Xg.s; constructor) | apply Ab.S.guardG) | (apply Ab.K.aop; first | (apply Og.s; constructor)) | (apply Ab.K.gk; first | (apply Xg.s; constructor) | (apply Ab.gY; case hw => assumption) | (apply Ab.gNT; case hw => assumption) | (apply Ab.gNF; case hw => assumption) | ((first | apply Ab.gD | apply Ab.gDN); all_goals (intro _ _; (first | contradiction | (exfalso; omega) | skip)))) | (apply Ab.K.awp; first | (apply Xg.s; constructor)) | (apply Ab.K.at_; exact at_) | (apply Ab.K.acall; first | assumption | fail) | (apply Ab.Rg.mk; omega) | (apply Ab.Lt.mk; first | decide | (simp; done) | (simp; omega) | fail) | (apply Ab.Get.mk; first | rfl | fail) | (apply Ab.Nm.mk; first | exact nrm_) | (apply Xg.s; constructor) | (apply Ab.asm; assumption) | rfl | infer_instance | decide))
  all_goals ((first | apply RetQ.ret | apply RetQ.normal); (case he => exact evr_); (case hg => rfl))
  all_goals first | exact Keeps.self trivial | rfl | (simp only [resV]; congr 1; simp; omega)
theorem limit_dec {s : AHeap} {n : Int} : ACall Try.prog 12 [.int .i64 n] s (.bool (decide (1 ≤ n ∧ n ≤ 2147483647))) s := by
  by_cases h : 1 ≤ n ∧ n ≤ 2147483647
  · rw [decide_eq_true h]; exact limit_yes h
  · rw [decide_eq_false h]; exact limit_no h


set_option maxHeartbeats 4000000 in
theorem check_no' {s : AHeap} {last cur prop : Int} {over : Bool} (hm : ¬ H.May ⟨last, cur, prop, over⟩) :
    ACall Try.prog 42 [.agg #[.int .i64 last, .int .i64 cur, .int .i64 prop, .bool over]] s (.int .i64 1) s := by
  unfold H.May at hm
  by_cases h0 : 0 ≤ last ∧ last ≤ 2147483647
  all_goals cases over
  all_goals simp only [h0, Bool.false_eq_true, Bool.true_eq_false, false_and, false_or, true_and, or_false, not_and, not_or] at hm
  all_goals (refine ACall.make Try.func42 rfl (by kernel_rfl) (by decide) rfl (fun N hN => ?_); have hT : Top N _ := hN; (repeat' (first | (apply Ab.K.ev; exact ev_) | (apply Ab.K.aops; first | (apply Xg.s; constructor) | (apply Ab.S.guardU; (case hd => rfl); (case hb => (exact ev_; done))) | apply Ab.S.guardG) | (apply Ab.K.aop; first | (first | (apply Ab.O.boxA (N + 0); (case hx => exact ev_); (case hid => exact frees_)) | (apply Ab.O.allocA (N + 0); (case hid => exact frees_); (case hp => rfl)) | (apply Ab.O.allocA (N + 1); (case hid => exact frees_); (case hp => rfl))) | (apply Og.s; constructor)) | (apply Ab.K.gk; first | (apply Xg.s; constructor) | (apply Ab.gY; case hw => assumption) | (apply Ab.gNT; case hw => assumption) | (apply Ab.gNF; case hw => assumption) | ((first | apply Ab.gD | apply Ab.gDN); all_goals (intro _ _; (first | contradiction | (exfalso; omega) | skip)))) | (apply Ab.K.awp; first | (apply Xg.s; constructor)) | (apply Ab.K.at_; exact at_) | (apply Ab.K.acall; first | assumption | first | exact count_yes (by assumption) | exact count_no (by assumption)) | (apply Ab.Rg.mk; omega) | (apply Ab.Lt.mk; first | decide | (simp; done) | (simp; omega) | fail) | (apply Ab.Get.mk; first | rfl | fail) | (apply Ab.Nm.mk; first | exact nrm_) | (apply Xg.s; constructor) | (apply Ab.asm; assumption) | rfl | infer_instance | decide)); (all_goals ((first | apply RetQ.ret | apply RetQ.normal); (case he => exact evr_); (case hg => rfl))); (all_goals first | rfl | (apply Keeps.fr; (case h => exact fr_); (case hv => exact plR.nm rfl)) | fail))
theorem checkH {s : AHeap} {h : H} : ACall Try.prog 42 [hv h] s (.int .i64 (if h.May then 0 else 1)) s := by
  by_cases hm : h.May
  · rw [if_pos hm]; exact check_ok hm
  · rw [if_neg hm]; exact check_no' hm
theorem mayH {s : AHeap} {h : H} : ACall Try.prog 37 [hv h] s (.bool (decide h.May)) s := by
  obtain ⟨last, cur, prop, over⟩ := h
  change ACall Try.prog 37 [.agg #[.int .i64 last, .int .i64 cur, .int .i64 prop, .bool over]] s (.bool (decide (H.May ⟨last, cur, prop, over⟩))) s
  by_cases hm : H.May ⟨last, cur, prop, over⟩
  case' pos => rw [decide_eq_true hm]
  case' neg => rw [decide_eq_false hm]
  all_goals simp only [H.May] at hm
  all_goals cases over
  all_goals simp only [Bool.false_eq_true, Bool.true_eq_false, false_and, false_or, true_and, or_false] at hm
  all_goals (refine ACall.make Try.func37 rfl (by kernel_rfl) (by decide) rfl (fun N hN => ?_); have hT : Top N _ := hN; (repeat' (first | (apply Ab.K.ev; exact ev_) | (apply Ab.K.aops; first | (apply Xg.s; constructor) | apply Ab.S.guardG) | (apply Ab.K.aop; first | (first | (apply Ab.O.boxA (N + 0); (case hx => exact ev_); (case hid => exact frees_)) | (apply Ab.O.allocA (N + 0); (case hid => exact frees_); (case hp => rfl)) | (apply Ab.O.allocA (N + 1); (case hid => exact frees_); (case hp => rfl))) | (apply Og.s; constructor)) | (apply Ab.K.gk; first | (apply Xg.s; constructor) | (apply Ab.gY; case hw => assumption) | (apply Ab.gNT; case hw => assumption) | (apply Ab.gNF; case hw => assumption) | ((first | apply Ab.gD | apply Ab.gDN); all_goals (intro _ _; (first | contradiction | (exfalso; omega) | skip)))) | (apply Ab.K.awp; first | (apply Xg.s; constructor)) | (apply Ab.K.at_; exact at_) | (apply Ab.K.acall; first | assumption | first | exact count_yes (by assumption) | exact count_no (by assumption)) | (apply Ab.Rg.mk; omega) | (apply Ab.Lt.mk; first | decide | (simp; done) | (simp; omega) | fail) | (apply Ab.Get.mk; first | rfl | fail) | (apply Ab.Nm.mk; first | exact nrm_) | (apply Xg.s; constructor) | (apply Ab.asm; assumption) | rfl | infer_instance | decide)); (all_goals ((first | apply RetQ.ret | apply RetQ.normal); (case he => exact evr_); (case hg => rfl))); (all_goals first | rfl | (apply Keeps.fr; (case h => exact fr_); (case hv => exact plR.nm rfl)) | (simp only [resV]; congr 1; first | (simp [*]; done) | (simp [*]; omega))))
/-- The taking end. -/
structure Tk where
  next : Int
  owes : Bool
deriving DecidableEq
def Tk.May (t : Tk) : Prop := 0 ≤ t.next ∧ t.next ≤ 2147483647
instance instTkMay (t : Tk) : Decidable t.May := by unfold Tk.May; infer_instance
abbrev tl (t : Tk) : List Value := [.int .i64 t.next, .bool t.owes]
abbrev tv (t : Tk) : Value := .agg (tl t).toArray
def getT (t : Tk) (seq : Int) : Tk × Bool := if seq = t.next ∧ t.next ≠ 2147483647 then (⟨t.next + 1, true⟩, true) else (⟨t.next, true⟩, false)
def ackT (t : Tk) : Tk := ⟨t.next, false⟩
theorem checkT {s : AHeap} {t : Tk} : ACall Try.prog 44 [tv t] s (.int .i64 (if t.May then 0 else 1)) s := by
  obtain ⟨next, owes⟩ := t
  change ACall Try.prog 44 [.agg #[.int .i64 next, .bool owes]] s (.int .i64 (if Tk.May ⟨next, owes⟩ then 0 else 1)) s
  by_cases hm : Tk.May ⟨next, owes⟩
  case' pos => rw [if_pos hm]
  case' neg => rw [if_neg hm]
  all_goals simp only [Tk.May] at hm
  all_goals (refine ACall.make Try.func44 rfl (by kernel_rfl) (by decide) rfl (fun N hN => ?_); have hT : Top N _ := hN; (repeat' (first | (apply Ab.K.ev; exact ev_) | (apply Ab.K.aops; first | (apply Xg.s; constructor) | apply Ab.S.guardG) | (apply Ab.K.aop; first | (first | (apply Ab.O.boxA (N + 0); (case hx => exact ev_); (case hid => exact frees_)) | (apply Ab.O.allocA (N + 0); (case hid => exact frees_); (case hp => rfl)) | (apply Ab.O.allocA (N + 1); (case hid => exact frees_); (case hp => rfl))) | (apply Og.s; constructor)) | (apply Ab.K.gk; first | (apply Xg.s; constructor) | (apply Ab.gY; case hw => assumption) | (apply Ab.gNT; case hw => assumption) | (apply Ab.gNF; case hw => assumption) | ((first | apply Ab.gD | apply Ab.gDN); all_goals (intro _ _; (first | contradiction | (exfalso; omega) | skip)))) | (apply Ab.K.awp; first | (apply Xg.s; constructor)) | (apply Ab.K.at_; exact at_) | (apply Ab.K.acall; first | assumption | first | exact count_yes (by assumption) | exact count_no (by assumption)) | (apply Ab.Rg.mk; omega) | (apply Ab.Lt.mk; first | decide | (simp; done) | (simp; omega) | fail) | (apply Ab.Get.mk; first | rfl | fail) | (apply Ab.Nm.mk; first | exact nrm_) | (apply Xg.s; constructor) | (apply Ab.asm; assumption) | rfl | infer_instance | decide)); (all_goals ((first | apply RetQ.ret | apply RetQ.normal); (case he => exact evr_); (case hg => rfl))); (all_goals first | rfl | (apply Keeps.fr; (case h => exact fr_); (case hv => exact plR.nm rfl)) | fail))
theorem mayT {s : AHeap} {t : Tk} : ACall Try.prog 39 [tv t] s (.bool (decide t.May)) s := by
  obtain ⟨next, owes⟩ := t
  change ACall Try.prog 39 [.agg #[.int .i64 next, .bool owes]] s (.bool (decide (Tk.May ⟨next, owes⟩))) s
  by_cases hm : Tk.May ⟨next, owes⟩
  case' pos => rw [decide_eq_true hm]
  case' neg => rw [decide_eq_false hm]
  all_goals simp only [Tk.May] at hm
  all_goals (refine ACall.make Try.func39 rfl (by kernel_rfl) (by decide) rfl (fun N hN => ?_); have hT : Top N _ := hN; (repeat' (first | (apply Ab.K.ev; exact ev_) | (apply Ab.K.aops; first | (apply Xg.s; constructor) | apply Ab.S.guardG) | (apply Ab.K.aop; first | (first | (apply Ab.O.boxA (N + 0); (case hx => exact ev_); (case hid => exact frees_)) | (apply Ab.O.allocA (N + 0); (case hid => exact frees_); (case hp => rfl)) | (apply Ab.O.allocA (N + 1); (case hid => exact frees_); (case hp => rfl))) | (apply Og.s; constructor)) | (apply Ab.K.gk; first | (apply Xg.s; constructor) | (apply Ab.gY; case hw => assumption) | (apply Ab.gNT; case hw => assumption) | (apply Ab.gNF; case hw => assumption) | ((first | apply Ab.gD | apply Ab.gDN); all_goals (intro _ _; (first | contradiction | (exfalso; omega) | skip)))) | (apply Ab.K.awp; first | (apply Xg.s; constructor)) | (apply Ab.K.at_; exact at_) | (apply Ab.K.acall; first | assumption | first | exact count_yes (by assumption) | exact count_no (by assumption)) | (apply Ab.Rg.mk; omega) | (apply Ab.Lt.mk; first | decide | (simp; done) | (simp; omega) | fail) | (apply Ab.Get.mk; first | rfl | fail) | (apply Ab.Nm.mk; first | exact nrm_) | (apply Xg.s; constructor) | (apply Ab.asm; assumption) | rfl | infer_instance | decide)); (all_goals ((first | apply RetQ.ret | apply RetQ.normal); (case he => exact evr_); (case hg => rfl))); (all_goals first | rfl | (apply Keeps.fr; (case h => exact fr_); (case hv => exact plR.nm rfl)) | (simp only [resV]; congr 1; first | (simp; done) | (simp; omega))))
theorem checkT_ok {s : AHeap} {next : Int} {owes : Bool} (h : 0 ≤ next ∧ next ≤ 2147483647) : ACall Try.prog 44 [.agg #[.int .i64 next, .bool owes]] s (.int .i64 0) s := by
  have := checkT (s := s) (t := ⟨next, owes⟩)
  rw [if_pos (show Tk.May ⟨next, owes⟩ from h)] at this; exact this
theorem takeGet {s : AHeap} {t : Tk} {seq : Int} (hm : t.May) : ACall Try.prog 69 [tv t, .int .i64 seq] s (.tuple #[tv (getT t seq).1, .bool (getT t seq).2, .int .i64 0]) s := by
  obtain ⟨next, owes⟩ := t
  have hm' : 0 ≤ next ∧ next ≤ 2147483647 := hm
  change ACall Try.prog 69 [.agg #[.int .i64 next, .bool owes], .int .i64 seq] s _ s
  by_cases h : seq = next ∧ next ≠ 2147483647
  case' pos => rw [show getT ⟨next, owes⟩ seq = (⟨next + 1, true⟩, true) from if_pos h]
  case' neg => rw [show getT ⟨next, owes⟩ seq = (⟨next, true⟩, false) from if_neg h]
  all_goals (refine ACall.make Try.func69 rfl (by kernel_rfl) (by decide) rfl (fun N hN => ?_); have hT : Top N _ := hN; (repeat' (first | (apply Ab.K.ev; exact ev_) | (apply Ab.K.aops; first | (apply Xg.s; constructor) | apply Ab.S.guardG) | (apply Ab.K.aop; first | (first | (apply Ab.O.boxA (N + 0); (case hx => exact ev_); (case hid => exact frees_)) | (apply Ab.O.allocA (N + 0); (case hid => exact frees_); (case hp => rfl)) | (apply Ab.O.allocA (N + 1); (case hid => exact frees_); (case hp => rfl))) | (apply Og.s; constructor)) | (apply Ab.K.gk; first | (apply Xg.s; constructor) | (apply Ab.gY; case hw => assumption) | (apply Ab.gNT; case hw => assumption) | (apply Ab.gNF; case hw => assumption) | ((first | apply Ab.gD | apply Ab.gDN); all_goals (intro _ _; (first | contradiction | (exfalso; omega) | skip)))) | (apply Ab.K.awp; first | (apply Xg.s; constructor)) | (apply Ab.K.at_; exact at_) | (apply Ab.K.acall; first | assumption | exact checkT_ok (by assumption)) | (apply Ab.Rg.mk; omega) | (apply Ab.Lt.mk; first | decide | (simp; done) | (simp; omega) | fail) | (apply Ab.Get.mk; first | rfl | fail) | (apply Ab.Nm.mk; first | exact nrm_) | (apply Xg.s; constructor) | (apply Ab.asm; assumption) | rfl | infer_instance | decide)); (all_goals ((first | apply RetQ.ret | apply RetQ.normal); (case he => exact evr_); (case hg => rfl))); (all_goals first | rfl | (apply Keeps.fr; (case h => exact fr_); (case hv => exact plR.nm rfl)) | fail))
theorem refGet {s : AHeap} {t : Tk} {seq : Int} (hm : t.May) : ACall Try.prog 47 [tv t, .int .i64 seq] s (.tuple #[tv (getT t seq).1, .bool (getT t seq).2]) s := by
  obtain ⟨next, owes⟩ := t
  have hm' : 0 ≤ next ∧ next ≤ 2147483647 := hm
  change ACall Try.prog 47 [.agg #[.int .i64 next, .bool owes], .int .i64 seq] s _ s
  by_cases h : seq = next ∧ next ≠ 2147483647
  case' pos => rw [show getT ⟨next, owes⟩ seq = (⟨next + 1, true⟩, true) from if_pos h]
  case' neg => rw [show getT ⟨next, owes⟩ seq = (⟨next, true⟩, false) from if_neg h]
  all_goals (refine ACall.make Try.func47 rfl (by kernel_rfl) (by decide) rfl (fun N hN => ?_); have hT : Top N _ := hN; (repeat' (first | (apply Ab.K.ev; exact ev_) | (apply Ab.K.aops; first | (apply Xg.s; constructor) | apply Ab.S.guardG) | (apply Ab.K.aop; first | (first | (apply Ab.O.boxA (N + 0); (case hx => exact ev_); (case hid => exact frees_)) | (apply Ab.O.allocA (N + 0); (case hid => exact frees_); (case hp => rfl)) | (apply Ab.O.allocA (N + 1); (case hid => exact frees_); (case hp => rfl))) | (apply Og.s; constructor)) | (apply Ab.K.gk; first | (apply Xg.s; constructor) | (apply Ab.gY; case hw => assumption) | (apply Ab.gNT; case hw => assumption) | (apply Ab.gNF; case hw => assumption) | ((first | apply Ab.gD | apply Ab.gDN); all_goals (intro _ _; (first | contradiction | (exfalso; omega) | skip)))) | (apply Ab.K.awp; first | (apply Xg.s; constructor)) | (apply Ab.K.at_; exact at_) | (apply Ab.K.acall; first | assumption | exact checkT_ok (by assumption)) | (apply Ab.Rg.mk; omega) | (apply Ab.Lt.mk; first | decide | (simp; done) | (simp; omega) | fail) | (apply Ab.Get.mk; first | rfl | fail) | (apply Ab.Nm.mk; first | exact nrm_) | (apply Xg.s; constructor) | (apply Ab.asm; assumption) | rfl | infer_instance | decide)); (all_goals ((first | apply RetQ.ret | apply RetQ.normal); (case he => exact evr_); (case hg => rfl))); (all_goals first | rfl | (apply Keeps.fr; (case h => exact fr_); (case hv => exact plR.nm rfl)) | fail))
theorem takeAck {s : AHeap} {t : Tk} (hm : t.May) : ACall Try.prog 60 [tv t] s (.tuple #[tv (ackT t), .int .i64 (if t.owes = true then t.next else 0), .bool t.owes]) s := by
  obtain ⟨next, owes⟩ := t
  have hm' : 0 ≤ next ∧ next ≤ 2147483647 := hm
  change ACall Try.prog 60 [.agg #[.int .i64 next, .bool owes]] s (.tuple #[.agg #[.int .i64 next, .bool false], .int .i64 (if owes = true then next else 0), .bool owes]) s
  cases owes
  all_goals (refine ACall.make Try.func60 rfl (by kernel_rfl) (by decide) rfl (fun N hN => ?_); have hT : Top N _ := hN; (repeat' (first | (apply Ab.K.ev; exact ev_) | (apply Ab.K.aops; first | (apply Xg.s; constructor) | apply Ab.S.guardG) | (apply Ab.K.aop; first | (first | (apply Ab.O.boxA (N + 0); (case hx => exact ev_); (case hid => exact frees_)) | (apply Ab.O.allocA (N + 0); (case hid => exact frees_); (case hp => rfl)) | (apply Ab.O.allocA (N + 1); (case hid => exact frees_); (case hp => rfl))) | (apply Og.s; constructor)) | (apply Ab.K.gk; first | (apply Xg.s; constructor) | (apply Ab.gY; case hw => assumption) | (apply Ab.gNT; case hw => assumption) | (apply Ab.gNF; case hw => assumption) | ((first | apply Ab.gD | apply Ab.gDN); all_goals (intro _ _; (first | contradiction | (exfalso; omega) | skip)))) | (apply Ab.K.aopsD; first | (apply Ab.D.q0t; (case hw => rfl); (case hot => rfl)) | (apply Ab.D.w1t; (case hw => rfl); (case hot => rfl)) | (apply Ab.D.q0; (case hw => rfl); intro _ _) | (apply Ab.D.w1n; (case hw => rfl); intro _ _) | (apply Ab.D.w2n; (case hw => rfl); intro _ _) | (apply Xg.s; constructor) | fail | apply Ab.D.guardG) | (apply Ab.K.aopsP; first | apply Ab.Pd.nil | (apply Ab.Pd.q; (case hi => rfl)) | (apply Ab.Pd.z; (case hi => rfl)) | (apply Ab.Pd.zU; (case hi => rfl); (case hd => rfl); (case hb => (exact ev_; done))) | (apply Ab.Pd.zG; (case hi => rfl); (case hd => rfl)) | (apply Ab.Pd.st; (case hi => rfl)) | (apply Ab.Pd.qU; (case hi => rfl); (case hd => rfl); (case hb => (exact ev_; done))) | (apply Ab.Pd.qG; (case hi => rfl); (case hd => rfl)) | (apply Ab.Pd.stU; (case hi => rfl); (case hd => rfl); (case hb => (exact ev_; done))) | (apply Ab.Pd.stG; (case hi => rfl); (case hd => rfl))) | (apply Ab.Pd.qs; intro _ _) | (apply Ab.Pd.nxE; (case hE => rfl)) | (apply Ab.Pd.nxR; (case hr => (repeat' (first | exact Ab.Sub.del _ _ | assumption | (apply Ab.Sub.setI; (case hn => simp)) | (apply Ab.Sub.setF; (case hn => exact free_)) | exact (Ab.Sub.del _ _).trans (by assumption))))) | exact ⟨rfl, rfl⟩ | (apply Ab.K.awp; first | (apply AWp.draw (id := 4) [[], [], [1], [0], [0, 1, 2, 3], [0, 1, 2, 3, 4]] [(3, [N + 1])] (by kernel_rfl) (by kernel_rfl) (by simp [apartW, unordB, cC] <;> omega)) | (apply Xg.s; constructor)) | (apply Ab.K.at_; exact at_) | (apply Ab.K.acall; first | assumption | exact checkT_ok (by assumption)) | (apply Ab.Rg.mk; omega) | (apply Ab.Lt.mk; first | decide | (simp; done) | (simp; omega) | fail) | (apply Ab.Get.mk; first | rfl | fail) | (apply Ab.Nm.mk; first | exact nrm_) | (apply Xg.s; constructor) | (apply Ab.asm; assumption) | rfl | infer_instance | decide)); (all_goals ((first | apply RetQ.ret | apply RetQ.normal); (case he => exact evr_); (case hg => rfl))); (all_goals first | rfl | (apply Keeps.fr; (case h => exact fr_); (case hv => exact plR.nm rfl)) | fail))
end Go.Proofs.Ytoiplbackllgfaa

/- lines: bytes and payloads, copied. -/
namespace Go.Proofs.Ytoiplbackllgfaa
set_option linter.unusedVariables false
set_option linter.unusedSimpArgs false
set_option linter.unusedSectionVars false
open Go.RowKit Ab HP
attribute [local irreducible] AOps AOpsD AOp AWp put nargs AHeap.set At Free ACall ACallE thenQ blockQ roundQ RetQ RetE Src Gr
theorem cloneB {s b : AHeap} {v : Value} {l : List Int} (hb : Sub b s) (h : Bt b v l) (hl : l.length ≤ 1000000000) :
    ACallE Try.prog 67 [v] s (Pu s b fun v' b' => Bt b' v' l) := by
  refine ACallE.make Try.func67 rfl (by kernel_rfl) (by decide) rfl (fun N hN0 => ?_)
  have hT : Top N s := hN0
  cases h with
  | nil =>
    (repeat' (first | (apply Ab.K.ev; exact ev_) | (apply Ab.K.aops; first | (apply Xg.s; constructor) | apply Ab.S.guardG) | (apply Ab.K.aop; first | (apply Og.s; constructor)) | (apply Ab.K.gk; first | (apply Xg.s; constructor) | (apply Ab.gY; case hw => assumption) | (apply Ab.gNT; case hw => assumption) | (apply Ab.gNF; case hw => assumption) | ((first | apply Ab.gD | apply Ab.gDN); all_goals (intro _ _; (first | contradiction | (exfalso; omega) | skip)))) | (apply Ab.K.awp; first | (apply Xg.s; constructor)) | (apply Ab.K.at_; exact at_) | (apply Ab.K.acall; first | assumption | fail) | (apply Ab.Rg.mk; omega) | (apply Ab.Lt.mk; first | decide | (simp; done) | (simp; omega) | fail) | (apply Ab.Get.mk; first | rfl | fail) | (apply Ab.Nm.mk; first | exact nrm_) | (apply Xg.s; constructor) | (apply Ab.asm; assumption) | rfl | infer_instance | decide))
    all_goals apply RetE.puR (Inv.refl hb)
    case he => exact evr_
    case hg => rfl
    · exact .nil
    · trivial
  | @blk o off n c sp rw cs l h hn hc hx =>
    obtain ⟨xs, hsrc, hcs⟩ := (Sl.blk (R := RB) (sp := sp) h hn hc hx).src hb (by decide)
    subst hn
    have hlx := hcs.len
    rw [Nat.mul_one] at hlx
    by_cases h0 : l.length = 0
    · obtain rfl := List.length_eq_zero_iff.1 h0
      (repeat' (first | (apply Ab.K.ev; exact ev_) | (apply Ab.K.aops; first | (apply Xg.s; constructor) | apply Ab.S.guardG) | (apply Ab.K.aop; first | (first | (apply Ab.O.build0 N (te := ⟨.int .u8, 1, 1, .int .u8 0⟩); (case hz => exact ⟨rfl, rfl⟩); (case hid => exact hT.free (Nat.le_refl _))) | (apply Ab.O.appendNone; (case hx => exact ev_); (case hy => exact ev_); (case hs => exact Src.none); (case hk => rfl))) | (apply Og.s; constructor)) | (apply Ab.K.gk; first | (apply Xg.s; constructor) | (apply Ab.gY; case hw => assumption) | (apply Ab.gNT; case hw => assumption) | (apply Ab.gNF; case hw => assumption) | ((first | apply Ab.gD | apply Ab.gDN); all_goals (intro _ _; (first | contradiction | (exfalso; omega) | skip)))) | (apply Ab.K.awp; first | (apply Xg.s; constructor)) | (apply Ab.K.at_; exact at_) | (apply Ab.K.acall; first | assumption | fail) | (apply Ab.Rg.mk; omega) | (apply Ab.Lt.mk; first | decide | (simp; done) | (simp; omega) | fail) | (apply Ab.Get.mk; first | rfl | fail) | (apply Ab.Nm.mk; first | exact nrm_) | (apply Xg.s; constructor) | (apply Ab.asm; assumption) | rfl | infer_instance | decide))
      all_goals apply RetE.puR ((Inv.refl hb).add (hT.none (Nat.le_refl _)) (c := .cells true 1 []) (fun x hx => by cases hx))
      case he => exact evr_
      case hg => rfl
      · exact .blk At.hit rfl (Nat.le_refl _) ⟨rfl, fun i x hx => by simp at hx⟩
      · show (AHeap.set b N _ N).isSome = true
        rw [AHeap.set_same]; rfl
    · have ho : o < N := hT.lt (hb.at_ h)
      (repeat' (first | (apply Ab.K.ev; exact ev_) | (apply Ab.K.aops; first | (apply Xg.s; constructor) | apply Ab.S.guardG) | (apply Ab.K.aop; first | (apply Ab.O.build0 N (te := ⟨.int .u8, 1, 1, .int .u8 0⟩); (case hz => exact ⟨rfl, rfl⟩); (case hid => exact hT.free (Nat.le_refl _))) | (apply Og.s; constructor)) | (apply Ab.K.gk; first | (apply Xg.s; constructor) | (apply Ab.gY; case hw => assumption) | (apply Ab.gNT; case hw => assumption) | (apply Ab.gNF; case hw => assumption) | ((first | apply Ab.gD | apply Ab.gDN); all_goals (intro _ _; (first | contradiction | (exfalso; omega) | skip)))) | (apply Ab.K.awp; first | (apply Xg.s; constructor)) | (apply Ab.K.at_; exact at_) | (apply Ab.K.acall; first | assumption | fail) | (apply Ab.Rg.mk; omega) | (apply Ab.Lt.mk; first | decide | (simp; done) | (simp; omega) | fail) | (apply Ab.Get.mk; first | rfl | fail) | (apply Ab.Nm.mk; first | exact nrm_) | (apply Xg.s; constructor) | (apply Ab.asm; assumption) | rfl | infer_instance | decide))
      refine O.appendL (N + 1) (v := .slice (some ⟨N, 0, none⟩) 0 0) (vy := .slice (some ⟨o, off, sp⟩) l.length c) (es := 1) (n := 0) (m := l.length) (xs := []) (ys := xs) (on := some N) (by exact ev_) (LAt.blk At.hit rfl) (by exact ev_) ?_ rfl h0 hcs.len (by decide) (by omega) (by exact free_) ?_
      · have hh := hsrc
        unfold Src at hh ⊢
        rw [← hh]
        simp only [srcCells, AHeap.set_other _ _ (show o ≠ N by omega)]
      intro s2 g
      have I := ((Inv.refl hb).boxT (c := .cells true 1 []) hT (Nat.le_refl _)).grew g (fun q e => by obtain rfl := Option.some.inj e; exact ⟨hT.none (Nat.le_refl _), hb.none (hT.none (Nat.le_refl _))⟩)
      have hh := g.hit
      rw [List.nil_append] at hh
      have p : s (N + 1) = none := hT.none (by omega)
      have I2 := I.adopt hh p (hb.none p) (fun x hx => pl1.nm (List.all_eq_true.1 (by rw [(RB.cs hcs).1]; exact bc_pl l) x hx))
      (repeat' (first | (apply Ab.K.ev; exact ev_) | (apply Ab.K.aops; first | (apply Xg.s; constructor) | apply Ab.S.guardG) | (apply Ab.K.aop; first | (apply Og.s; constructor)) | (apply Ab.K.gk; first | (apply Xg.s; constructor) | (apply Ab.gY; case hw => assumption) | (apply Ab.gNT; case hw => assumption) | (apply Ab.gNF; case hw => assumption) | ((first | apply Ab.gD | apply Ab.gDN); all_goals (intro _ _; (first | contradiction | (exfalso; omega) | skip)))) | (apply Ab.K.awp; first | (apply Xg.s; constructor)) | (apply Ab.K.at_; exact at_) | (apply Ab.K.acall; first | assumption | fail) | (apply Ab.Rg.mk; omega) | (apply Ab.Lt.mk; first | decide | (simp; done) | (simp; omega) | fail) | (apply Ab.Get.mk; first | rfl | fail) | (apply Ab.Nm.mk; first | exact nrm_) | (apply Xg.s; constructor) | (apply Ab.asm; assumption) | rfl | infer_instance | decide))
      all_goals apply RetE.puR I2
      case he => exact evr_
      case hg => rfl
      · exact .blk At.hit (Nat.zero_add _) (Nat.le_refl _) (by rw [List.drop_zero, Nat.zero_add, ← hcs.len, List.take_length]; exact hcs)
      · show (AHeap.set b (N + 1) _ (N + 1)).isSome = true
        rw [AHeap.set_same]; rfl
set_option maxHeartbeats 4000000 in
theorem ownG {s b : AHeap} {v : Value} {q : List (List Int)} (hb : Sub b s) (h : Qt b v q) (hq : q.length ≤ 1000000) (hl : ∀ x ∈ q, x.length ≤ 1000000000) :
    ACallE Try.prog 75 [v] s (GL 1 RQ q s b) := by
  refine ACallE.make Try.func75 rfl (by kernel_rfl) (by decide) rfl (fun N hN0 => ?_)
  have hT : Top N s := hN0
  obtain ⟨A, cap, rfl, hcap⟩ := h.isl
  (repeat' (first | (apply Ab.K.ev; exact ev_) | (apply Ab.K.aops; first | (apply Xg.s; constructor) | apply Ab.S.guardG) | (apply Ab.K.aop; first | (apply Og.s; constructor)) | (apply Ab.K.gk; first | (apply Xg.s; constructor) | (apply Ab.gY; case hw => assumption) | (apply Ab.gNT; case hw => assumption) | (apply Ab.gNF; case hw => assumption) | ((first | apply Ab.gD | apply Ab.gDN); all_goals (intro _ _; (first | contradiction | (exfalso; omega) | skip)))) | (apply Ab.K.awp; first | (apply Xg.s; constructor)) | (apply Ab.K.at_; exact at_) | (apply Ab.K.acall; first | assumption | fail) | (apply Ab.Rg.mk; omega) | (apply Ab.Lt.mk; first | decide | (simp; done) | (simp; omega) | fail) | (apply Ab.Get.mk; first | rfl | fail) | (apply Ab.Nm.mk; first | exact nrm_) | (apply Xg.s; constructor) | (apply Ab.asm; assumption) | rfl | infer_instance | decide))
  refine AWp.loop (fun kk tm s1 => ∃ (i M : Nat) (w : Value) (on : Option Nat) (xs : List Value) (b1 : AHeap), Ev tm (.tmp 3) w ∧ Ev tm (.tmp 6) (.slice A q.length cap) ∧ Ev tm (.tmp 7) (.int .i64 q.length) ∧ Ev tm (.tmp 8) (.int .i64 i) ∧ Inv s b s1 b1 ∧ Gr s1 1 N w on i xs ∧ Cs 1 (RQ b1) xs (q.take i) ∧ (∀ o, on = some o → Prv s s1 b1 o) ∧ Top M s1 ∧ N ≤ M ∧ i ≤ q.length ∧ kk = q.length - i) q.length ?_ ?_
  · exact ⟨0, N, _, _, [], b, by exact ev_, by exact ev_, by exact ev_, by exact ev_, Inv.refl hb, Gr.nil, Cs.nil, (fun o e => by cases e), hT, Nat.le_refl _, by omega, rfl⟩
  rintro kk tm s1 ⟨i, M, w, on, xs, b1, e3, e6, e7, e8, I, G, C, hP, T, hMM, hi, hkk⟩
  by_cases hin : i < q.length
  · obtain ⟨x, hx⟩ : ∃ x, q[i]? = some x := ⟨_, List.getElem?_eq_getElem hin⟩
    have htk : q.take (i + 1) = q.take i ++ [x] := by rw [List.take_add_one, hx]; rfl
    obtain ⟨o, off, c, sp, rw', cs, u, e, _, ha, hg, hu⟩ := h.qelt hx
    obtain ⟨rfl, rfl⟩ : A = some ⟨o, off, sp⟩ ∧ cap = c := by injection e with e1 e2 e3; exact ⟨e1, e3⟩
    have a1 : At s1 o (.cells rw' 1 cs) := (I.old.trans I.sub).at_ ha
    have cc := cloneB I.sub (hu.bt I.old) (hl x (List.mem_of_getElem? hx))

    (repeat' (first | (apply Ab.K.ev; exact ev_) | (apply Ab.K.aops; first | (apply Xg.s; constructor) | apply Ab.S.guardG) | (apply Ab.K.aop; first | (apply Ab.O.callFE; (case ha => exact evs_); (case hc => exact cc)) | (apply Og.s; constructor)) | (apply Ab.K.gk; first | (apply Xg.s; constructor) | (apply Ab.gY; case hw => assumption) | (apply Ab.gNT; case hw => assumption) | (apply Ab.gNF; case hw => assumption) | ((first | apply Ab.gD | apply Ab.gDN); all_goals (intro _ _; (first | contradiction | (exfalso; omega) | skip)))) | (apply Ab.K.awp; first | (apply Xg.s; constructor)) | (apply Ab.K.at_; exact at_) | (apply Ab.K.acall; first | assumption | fail) | (apply Ab.Rg.mk; omega) | (apply Ab.Lt.mk; first | decide | (simp; done) | (simp; omega) | fail) | (apply Ab.Get.mk; first | rfl | (first | (rw [Int.toNat_natCast, Nat.mul_one]; exact hg) | (rw [Int.toNat_natCast]; exact hg))) | (apply Ab.Nm.mk; first | exact nrm_) | (apply Xg.s; constructor) | (apply Ab.asm; assumption) | rfl | infer_instance | decide))
    rintro v2 s2 ⟨b2, I2, hv2⟩
    clear cc
    obtain ⟨B, c2, rfl, _⟩ := hv2.isl
    obtain ⟨M2, hM2, T2⟩ := I2.fin M T
    have I3 := I.trans I2
    have hlt := G.lt T
    (repeat' (first | (apply Ab.K.ev; exact ev_) | (apply Ab.K.aops; first | (apply Xg.s; constructor) | apply Ab.S.guardG) | (apply Ab.K.aop; first | (apply Ab.O.build1 (M2); (case hx => exact ev_); (case hv => exact ⟨rfl, rfl⟩); (case hz => exact ⟨rfl, rfl⟩); (case hid => exact free_)) | (apply Og.s; constructor)) | (apply Ab.K.gk; first | (apply Xg.s; constructor) | (apply Ab.gY; case hw => assumption) | (apply Ab.gNT; case hw => assumption) | (apply Ab.gNF; case hw => assumption) | ((first | apply Ab.gD | apply Ab.gDN); all_goals (intro _ _; (first | contradiction | (exfalso; omega) | skip)))) | (apply Ab.K.awp; first | (apply Xg.s; constructor)) | (apply Ab.K.at_; exact at_) | (apply Ab.K.acall; first | assumption | fail) | (apply Ab.Rg.mk; omega) | (apply Ab.Lt.mk; first | decide | (simp; done) | (simp; omega) | fail) | (apply Ab.Get.mk; first | rfl | (first | (rw [Int.toNat_natCast, Nat.mul_one]; exact hg) | (rw [Int.toNat_natCast]; exact hg))) | (apply Ab.Nm.mk; first | exact nrm_) | (apply Xg.s; constructor) | (apply Ab.asm; assumption) | rfl | infer_instance | decide))
    have G4 := (G.kp I2.kp).set (id := M2) (b := .cells true 1 [.slice B x.length c2]) (fun q e => by have := hlt q e; omega)
    clear G

    (apply Ab.O.appendL (M2 + 1); (case hx => exact ev_); (case hL => exact Ab.Gr.lat (by assumption)); (case hy => exact ev_); (case hs => exact srcAll At.hit rfl); (case hk => rfl); (case hm => decide); (case hl => first | rfl | simp); (case hz => decide); (case hb => omega); (case hfree => exact free_))
    intro s4 g
    have I4 := (I3.boxT (c := .cells true 1 [.slice B x.length c2]) T2 (Nat.le_refl _)).grew g (fun q e => ⟨(hP q e).z, ((hP q e).call I2).b⟩)
    have P4 := Prv.new (I3.boxT (c := .cells true 1 [.slice B x.length c2]) T2 (Nat.le_refl _)) g
    have T4 := G4.topN g T2.new
    have C4 : Cs 1 (RQ b2) (xs ++ [.slice B x.length c2]) (q.take (i + 1)) := by rw [htk]; exact (C.mono fun c y => datQ.mono _ _ c y I2.old).snoc rfl ⟨_, rfl, hv2⟩
    have G5 : Gr s4 1 N _ _ (i + 1) _ := Gr.app g (by rw [C4.len, List.length_take]; omega) (by omega)
    (repeat' (first | (apply Ab.K.ev; exact ev_) | (apply Ab.K.aops; first | (apply Xg.s; constructor) | apply Ab.S.guardG) | (apply Ab.K.aop; first | (apply Og.s; constructor)) | (apply Ab.K.gk; first | (apply Xg.s; constructor) | (apply Ab.gY; case hw => assumption) | (apply Ab.gNT; case hw => assumption) | (apply Ab.gNF; case hw => assumption) | ((first | apply Ab.gD | apply Ab.gDN); all_goals (intro _ _; (first | contradiction | (exfalso; omega) | skip)))) | (apply Ab.K.awp; first | (apply Xg.s; constructor)) | (apply Ab.K.at_; exact at_) | (apply Ab.K.acall; first | assumption | fail) | (apply Ab.Rg.mk; omega) | (apply Ab.Lt.mk; first | decide | (simp; done) | (simp; omega) | fail) | (apply Ab.Get.mk; first | rfl | (first | (rw [Int.toNat_natCast, Nat.mul_one]; exact hg) | (rw [Int.toNat_natCast]; exact hg))) | (apply Ab.Nm.mk; first | exact nrm_) | (apply Xg.s; constructor) | (apply Ab.asm; assumption) | rfl | infer_instance | decide))
    exact X.roundN (q.length - (i + 1)) (by omega) ⟨i + 1, M2 + 2, _, _, _, b2, by exact ev_, by exact ev_, by exact ev_, by exact ev_, I4, G5, C4, (fun o e => by obtain rfl := Option.some.inj e; exact P4), T4, by omega, by omega, rfl⟩
  · have hie : i = q.length := by omega
    subst hie
    rw [List.take_length] at C
    obtain ⟨B, rfl⟩ := G.isl
    (repeat' (first | (apply Ab.K.ev; exact ev_) | (apply Ab.K.aops; first | (apply Xg.s; constructor) | apply Ab.S.guardG) | (apply Ab.K.aop; first | (apply Og.s; constructor)) | (apply Ab.K.gk; first | (apply Xg.s; constructor) | (apply Ab.gY; case hw => assumption) | (apply Ab.gNT; case hw => assumption) | (apply Ab.gNF; case hw => assumption) | ((first | apply Ab.gD | apply Ab.gDN); all_goals (intro _ _; (first | contradiction | (exfalso; omega) | skip)))) | (apply Ab.K.awp; first | (apply Xg.s; constructor)) | (apply Ab.K.at_; exact at_) | (apply Ab.K.acall; first | assumption | fail) | (apply Ab.Rg.mk; omega) | (apply Ab.Lt.mk; first | decide | (simp; done) | (simp; omega) | fail) | (apply Ab.Get.mk; first | rfl | (first | (rw [Int.toNat_natCast, Nat.mul_one]; exact hg) | (rw [Int.toNat_natCast]; exact hg))) | (apply Ab.Nm.mk; first | exact nrm_) | (apply Xg.s; constructor) | (apply Ab.asm; assumption) | rfl | infer_instance | decide))
    exact RetE.gl (fun _ => by simp) G datQ I hP C (by exact evr_)
theorem ownQ {s b : AHeap} {v : Value} {q : List (List Int)} (hb : Sub b s) (h : Qt b v q) (hq : q.length ≤ 1000000) (hl : ∀ x ∈ q, x.length ≤ 1000000000) :
    ACallE Try.prog 75 [v] s (Pu s b fun v' b' => Qt b' v' q) := (ownG hb h hq hl).mono fun _ _ h => h.tell datQ
end Go.Proofs.Ytoiplbackllgfaa

/- lines: senders: which may be, and which are alike. -/
namespace Go.Proofs.Ytoiplbackllgfaa
set_option linter.unusedVariables false
set_option linter.unusedSimpArgs false
set_option linter.unusedSectionVars false
open Go.RowKit Ab HP
attribute [local irreducible] AOps AOpsD AOp AWp put nargs AHeap.set At Free ACall ACallE thenQ blockQ roundQ RetQ RetE Src Gr
/-- The sending end. -/
structure Sd where
  base : Int
  sent : Int
  q : List (List Int)
  clock : Int
deriving DecidableEq
def Sd.Ok (x : Sd) : Prop := (0 ≤ x.base ∧ x.base ≤ 2147483647) ∧ x.q.length ≤ 256 ∧ (0 ≤ x.sent ∧ x.sent ≤ 16 ∧ x.sent ≤ (x.q.length : Int)) ∧ (0 ≤ x.clock ∧ x.clock ≤ 4 ∧ (x.clock = 0 ↔ x.sent = 0))
def big (q : List (List Int)) : Prop := ∃ x ∈ q, 16384 < x.length
instance instBig (q : List (List Int)) : Decidable (big q) := by unfold big; infer_instance
def Sd.May (x : Sd) : Prop := x.Ok ∧ ¬ big x.q
instance instSdOk (x : Sd) : Decidable x.Ok := by unfold Sd.Ok; infer_instance
instance instSdMay (x : Sd) : Decidable x.May := by unfold Sd.May; infer_instance
def RS (b : AHeap) (c : List Value) (x : Sd) : Prop := ∃ v, c = [.int .i64 x.base, .int .i64 x.sent, v, .int .i64 x.clock] ∧ Qt b v x.q
theorem big_get {q : List (List Int)} (h : ¬ big q) : ∀ x ∈ q, x.length ≤ 16384 := fun x hx => Nat.le_of_not_lt fun e => h ⟨x, hx, e⟩
theorem big74 {s : AHeap} {v : Value} {l : List Int} (h : Bt s v l) : ACall Try.prog 74 [v] s (.bool (decide ((l.length : Int) > 16384))) s := by
  obtain ⟨A, c, rfl, _⟩ := h.isl
  (refine ACall.make Try.func74 rfl (by kernel_rfl) (by decide) rfl (fun N hN => ?_); have hT : Top N _ := hN; (repeat' (first | (apply Ab.K.ev; exact ev_) | (apply Ab.K.aops; first | (apply Xg.s; constructor) | apply Ab.S.guardG) | (apply Ab.K.aop; first | (apply Og.s; constructor)) | (apply Ab.K.gk; first | (apply Xg.s; constructor) | (apply Ab.gY; case hw => assumption) | (apply Ab.gNT; case hw => assumption) | (apply Ab.gNF; case hw => assumption) | ((first | apply Ab.gD | apply Ab.gDN); all_goals (intro _ _; (first | contradiction | (exfalso; omega) | skip)))) | (apply Ab.K.awp; first | (apply Xg.s; constructor)) | (apply Ab.K.at_; exact at_) | (apply Ab.K.acall; first | assumption | fail) | (apply Ab.Rg.mk; omega) | (apply Ab.Lt.mk; first | decide | (simp; done) | (simp; omega) | fail) | (apply Ab.Get.mk; first | rfl | fail) | (apply Ab.Nm.mk; first | exact nrm_) | (apply Xg.s; constructor) | (apply Ab.asm; assumption) | rfl | infer_instance | decide)); (all_goals ((first | apply RetQ.ret | apply RetQ.normal); (case he => exact evr_); (case hg => rfl))); (all_goals first | rfl | (apply Keeps.fr; (case h => exact fr_); (case hv => exact plR.nm rfl)) | fail))
theorem eq72 {s : AHeap} {v w : Value} {a b : List Int} (h : Bt s v a) (k : Bt s w b) : ACall Try.prog 72 [v, w] s (.bool (decide (a = b))) s := by
  rw [← strOf_dec h.byt k.byt]
  (refine ACall.make Try.func72 rfl (by kernel_rfl) (by decide) rfl (fun N hN => ?_); have hT : Top N _ := hN; (repeat' (first | (apply Ab.K.ev; exact ev_) | (apply Ab.K.aops; first | (apply Xg.s; constructor) | apply Ab.S.guardG) | (apply Ab.K.aop; first | (first | (apply Ab.O.strB; (case hx => exact ev_); (case h => exact h)) | (apply Ab.O.strB; (case hx => exact ev_); (case h => exact k))) | (apply Og.s; constructor)) | (apply Ab.K.gk; first | (apply Xg.s; constructor) | (apply Ab.gY; case hw => assumption) | (apply Ab.gNT; case hw => assumption) | (apply Ab.gNF; case hw => assumption) | ((first | apply Ab.gD | apply Ab.gDN); all_goals (intro _ _; (first | contradiction | (exfalso; omega) | skip)))) | (apply Ab.K.awp; first | (apply Xg.s; constructor)) | (apply Ab.K.at_; exact at_) | (apply Ab.K.acall; first | assumption | fail) | (apply Ab.Rg.mk; omega) | (apply Ab.Lt.mk; first | decide | (simp; done) | (simp; omega) | fail) | (apply Ab.Get.mk; first | rfl | fail) | (apply Ab.Nm.mk; first | exact nrm_) | (apply Xg.s; constructor) | (apply Ab.asm; assumption) | rfl | infer_instance | decide)); (all_goals ((first | apply RetQ.ret | apply RetQ.normal); (case he => exact evr_); (case hg => rfl))); (all_goals first | rfl | (apply Keeps.fr; (case h => exact fr_); (case hv => exact plR.nm rfl)) | fail))
theorem index78 {s : AHeap} {v : Value} {q : List (List Int)} (h : Qt s v q) (hq : q.length ≤ 1000000000) :
    ACallE Try.prog 78 [v, .func (.func 74) #[] #[]] s (fun r s' => ∃ n : Int, r = .int .i64 n ∧ (0 ≤ n ↔ big q) ∧ s' = s) := by
  refine ACallE.make Try.func78 rfl (by kernel_rfl) (by decide) rfl (fun N hN0 => ?_)
  have hT : Top N s := hN0
  obtain ⟨A, cap, rfl, hcap⟩ := h.isl
  (repeat' (first | (apply Ab.K.ev; exact ev_) | (apply Ab.K.aops; first | (apply Xg.s; constructor) | apply Ab.S.guardG) | (apply Ab.K.aop; first | (apply Og.s; constructor)) | (apply Ab.K.gk; first | (apply Xg.s; constructor) | (apply Ab.gY; case hw => assumption) | (apply Ab.gNT; case hw => assumption) | (apply Ab.gNF; case hw => assumption) | ((first | apply Ab.gD | apply Ab.gDN); all_goals (intro _ _; (first | contradiction | (exfalso; omega) | skip)))) | (apply Ab.K.awp; first | (apply Xg.s; constructor)) | (apply Ab.K.at_; exact at_) | (apply Ab.K.acall; first | assumption | fail) | (apply Ab.Rg.mk; omega) | (apply Ab.Lt.mk; first | decide | (simp; done) | (simp; omega) | fail) | (apply Ab.Get.mk; first | rfl | fail) | (apply Ab.Nm.mk; first | exact nrm_) | (apply Xg.s; constructor) | (apply Ab.asm; assumption) | rfl | infer_instance | decide))
  refine AWp.loop (fun kk tm s1 => ∃ (i : Nat), Ev tm (.tmp 0) (.slice A q.length cap) ∧ Ev tm (.tmp 1) (.func (.func 74) #[] #[]) ∧ Ev tm (.tmp 7) (.int .i64 q.length) ∧ Ev tm (.tmp 8) (.int .i64 i) ∧ s1 = s ∧ ¬ big (q.take i) ∧ i ≤ q.length ∧ kk = q.length - i) q.length ?_ ?_
  · exact ⟨0, by exact ev_, by exact ev_, by exact ev_, by exact ev_, rfl, (fun ⟨x, h, _⟩ => by cases h), by omega, rfl⟩
  rintro kk tm s1 ⟨i, e0, e1, e7, e8, rfl, hnb, hi, hkk⟩
  by_cases hin : i < q.length
  · obtain ⟨x, hx⟩ : ∃ x, q[i]? = some x := ⟨_, List.getElem?_eq_getElem hin⟩
    have htk : q.take (i + 1) = q.take i ++ [x] := by rw [List.take_add_one, hx]; rfl
    obtain ⟨o, off, c, sp, rw', cs, u, e, _, ha, hg, hu⟩ := h.qelt hx
    obtain ⟨rfl, rfl⟩ : A = some ⟨o, off, sp⟩ ∧ cap = c := by injection e with e1 e2 e3; exact ⟨e1, e3⟩
    have cc := big74 hu

    by_cases hb : (x.length : Int) > 16384
    case' pos => rw [decide_eq_true hb] at cc
    case' neg => rw [decide_eq_false hb] at cc
    all_goals (repeat' (first | (apply Ab.K.ev; exact ev_) | (apply Ab.K.aops; first | (apply Xg.s; constructor) | apply Ab.S.guardG) | (apply Ab.K.aop; first | (apply Ab.O.call; (case hf => exact ev_); (case ha => exact evs_); (case hc => exact cc)) | (apply Og.s; constructor)) | (apply Ab.K.gk; first | (apply Xg.s; constructor) | (apply Ab.gY; case hw => assumption) | (apply Ab.gNT; case hw => assumption) | (apply Ab.gNF; case hw => assumption) | ((first | apply Ab.gD | apply Ab.gDN); all_goals (intro _ _; (first | contradiction | (exfalso; omega) | skip)))) | (apply Ab.K.awp; first | (apply Xg.s; constructor)) | (apply Ab.K.at_; exact at_) | (apply Ab.K.acall; first | assumption | fail) | (apply Ab.Rg.mk; omega) | (apply Ab.Lt.mk; first | decide | (simp; done) | (simp; omega) | fail) | (apply Ab.Get.mk; first | rfl | (first | (rw [Int.toNat_natCast, Nat.mul_one]; exact hg) | (rw [Int.toNat_natCast]; exact hg))) | (apply Ab.Nm.mk; first | exact nrm_) | (apply Xg.s; constructor) | (apply Ab.asm; assumption) | rfl | infer_instance | decide))
    · exact X.roundN (q.length - (i + 1)) (by omega) ⟨i + 1, by exact ev_, by exact ev_, by exact ev_, by exact ev_, rfl, (by
        rw [htk]
        rintro ⟨y, hy, hyb⟩
        rcases List.mem_append.1 hy with hy | hy
        · exact hnb ⟨y, hy, hyb⟩
        · rw [List.mem_singleton.1 hy] at hyb; omega), by omega, by omega⟩
    all_goals ((first | apply RetE.ret | apply RetE.normal); (case he => exact evr_); (case hg => rfl))
    · exact ⟨(i : Int), rfl, ⟨fun _ => ⟨x, List.mem_of_getElem? hx, by omega⟩, fun _ => by omega⟩, rfl⟩
    · exact Keeps.self trivial
  · obtain rfl : i = q.length := by omega
    rw [List.take_length] at hnb
    (repeat' (first | (apply Ab.K.ev; exact ev_) | (apply Ab.K.aops; first | (apply Xg.s; constructor) | apply Ab.S.guardG) | (apply Ab.K.aop; first | (apply Og.s; constructor)) | (apply Ab.K.gk; first | (apply Xg.s; constructor) | (apply Ab.gY; case hw => assumption) | (apply Ab.gNT; case hw => assumption) | (apply Ab.gNF; case hw => assumption) | ((first | apply Ab.gD | apply Ab.gDN); all_goals (intro _ _; (first | contradiction | (exfalso; omega) | skip)))) | (apply Ab.K.awp; first | (apply Xg.s; constructor)) | (apply Ab.K.at_; exact at_) | (apply Ab.K.acall; first | assumption | fail) | (apply Ab.Rg.mk; omega) | (apply Ab.Lt.mk; first | decide | (simp; done) | (simp; omega) | fail) | (apply Ab.Get.mk; first | rfl | (first | (rw [Int.toNat_natCast, Nat.mul_one]; exact hg) | (rw [Int.toNat_natCast]; exact hg))) | (apply Ab.Nm.mk; first | exact nrm_) | (apply Xg.s; constructor) | (apply Ab.asm; assumption) | rfl | infer_instance | decide))
    all_goals ((first | apply RetE.ret | apply RetE.normal); (case he => exact evr_); (case hg => rfl))
    · exact ⟨-1, rfl, ⟨fun h => by omega, fun h => absurd h hnb⟩, rfl⟩
    · exact Keeps.self trivial
theorem contains73 {s : AHeap} {v : Value} {q : List (List Int)} (h : Qt s v q) (hq : q.length ≤ 1000000000) :
    ACall Try.prog 73 [v, .func (.func 74) #[] #[]] s (.bool (decide (big q))) s := by
  refine ACall.make Try.func73 rfl (by kernel_rfl) (by decide) rfl (fun N hN0 => ?_)
  have cc := index78 h hq
  (repeat' (first | (apply Ab.K.ev; exact ev_) | (apply Ab.K.aops; first | (apply Xg.s; constructor) | apply Ab.S.guardG) | (apply Ab.K.aop; first | (apply Ab.O.callFE; (case ha => exact evs_); (case hc => exact cc)) | (apply Og.s; constructor)) | (apply Ab.K.gk; first | (apply Xg.s; constructor) | (apply Ab.gY; case hw => assumption) | (apply Ab.gNT; case hw => assumption) | (apply Ab.gNF; case hw => assumption) | ((first | apply Ab.gD | apply Ab.gDN); all_goals (intro _ _; (first | contradiction | (exfalso; omega) | skip)))) | (apply Ab.K.awp; first | (apply Xg.s; constructor)) | (apply Ab.K.at_; exact at_) | (apply Ab.K.acall; first | assumption | fail) | (apply Ab.Rg.mk; omega) | (apply Ab.Lt.mk; first | decide | (simp; done) | (simp; omega) | fail) | (apply Ab.Get.mk; first | rfl | (first | (rw [Int.toNat_natCast, Nat.mul_one]; exact hg) | (rw [Int.toNat_natCast]; exact hg))) | (apply Ab.Nm.mk; first | exact nrm_) | (apply Xg.s; constructor) | (apply Ab.asm; assumption) | rfl | infer_instance | decide))
  rintro r s' ⟨n, rfl, hn, rfl⟩
  rw [show decide (big q) = decide (n ≥ 0) from decide_eq_decide.2 hn.symm]
  (repeat' (first | (apply Ab.K.ev; exact ev_) | (apply Ab.K.aops; first | (apply Xg.s; constructor) | apply Ab.S.guardG) | (apply Ab.K.aop; first | (apply Og.s; constructor)) | (apply Ab.K.gk; first | (apply Xg.s; constructor) | (apply Ab.gY; case hw => assumption) | (apply Ab.gNT; case hw => assumption) | (apply Ab.gNF; case hw => assumption) | ((first | apply Ab.gD | apply Ab.gDN); all_goals (intro _ _; (first | contradiction | (exfalso; omega) | skip)))) | (apply Ab.K.awp; first | (apply Xg.s; constructor)) | (apply Ab.K.at_; exact at_) | (apply Ab.K.acall; first | assumption | fail) | (apply Ab.Rg.mk; omega) | (apply Ab.Lt.mk; first | decide | (simp; done) | (simp; omega) | fail) | (apply Ab.Get.mk; first | rfl | (first | (rw [Int.toNat_natCast, Nat.mul_one]; exact hg) | (rw [Int.toNat_natCast]; exact hg))) | (apply Ab.Nm.mk; first | exact nrm_) | (apply Xg.s; constructor) | (apply Ab.asm; assumption) | rfl | infer_instance | decide))
  all_goals ((first | apply RetQ.ret | apply RetQ.normal); (case he => exact evr_); (case hg => rfl))
  · rfl
  · exact Keeps.self trivial
theorem equal71 {s : AHeap} {v w : Value} {q r : List (List Int)} (h : Qt s v q) (k : Qt s w r) (hq : q.length ≤ 1000000000) (hr : r.length ≤ 1000000000) :
    ACall Try.prog 71 [v, w, .func (.func 72) #[] #[]] s (.bool (decide (q = r))) s := by
  refine ACall.make Try.func71 rfl (by kernel_rfl) (by decide) rfl (fun N hN0 => ?_)
  obtain ⟨A, cap, rfl, hcap⟩ := h.isl
  obtain ⟨B, cap2, rfl, hcap2⟩ := k.isl
  by_cases hl : q.length = r.length
  case neg =>
    rw [decide_eq_false (fun e => hl (by rw [e]))]
    (repeat' (first | (apply Ab.K.ev; exact ev_) | (apply Ab.K.aops; first | (apply Xg.s; constructor) | apply Ab.S.guardG) | (apply Ab.K.aop; first | (apply Og.s; constructor)) | (apply Ab.K.gk; first | (apply Xg.s; constructor) | (apply Ab.gY; case hw => assumption) | (apply Ab.gNT; case hw => assumption) | (apply Ab.gNF; case hw => assumption) | ((first | apply Ab.gD | apply Ab.gDN); all_goals (intro _ _; (first | contradiction | (exfalso; omega) | skip)))) | (apply Ab.K.awp; first | (apply Xg.s; constructor)) | (apply Ab.K.at_; exact at_) | (apply Ab.K.acall; first | assumption | fail) | (apply Ab.Rg.mk; omega) | (apply Ab.Lt.mk; first | decide | (simp; done) | (simp; omega) | fail) | (apply Ab.Get.mk; first | rfl | (first | (rw [Int.toNat_natCast, Nat.mul_one]; exact hg) | (rw [Int.toNat_natCast]; exact hg))) | (apply Ab.Nm.mk; first | exact nrm_) | (apply Xg.s; constructor) | (apply Ab.asm; assumption) | rfl | infer_instance | decide))
    all_goals ((first | apply RetQ.ret | apply RetQ.normal); (case he => exact evr_); (case hg => rfl))
    · rfl
    · exact Keeps.self trivial
  (repeat' (first | (apply Ab.K.ev; exact ev_) | (apply Ab.K.aops; first | (apply Xg.s; constructor) | apply Ab.S.guardG) | (apply Ab.K.aop; first | (apply Og.s; constructor)) | (apply Ab.K.gk; first | (apply Xg.s; constructor) | (apply Ab.gY; case hw => assumption) | (apply Ab.gNT; case hw => assumption) | (apply Ab.gNF; case hw => assumption) | ((first | apply Ab.gD | apply Ab.gDN); all_goals (intro _ _; (first | contradiction | (exfalso; omega) | skip)))) | (apply Ab.K.awp; first | (apply Xg.s; constructor)) | (apply Ab.K.at_; exact at_) | (apply Ab.K.acall; first | assumption | fail) | (apply Ab.Rg.mk; omega) | (apply Ab.Lt.mk; first | decide | (simp; done) | (simp; omega) | fail) | (apply Ab.Get.mk; first | rfl | (first | (rw [Int.toNat_natCast, Nat.mul_one]; exact hg) | (rw [Int.toNat_natCast]; exact hg))) | (apply Ab.Nm.mk; first | exact nrm_) | (apply Xg.s; constructor) | (apply Ab.asm; assumption) | rfl | infer_instance | decide))
  refine AWp.loop (fun kk tm s1 => ∃ (i : Nat), Ev tm (.tmp 1) (.slice B r.length cap2) ∧ Ev tm (.tmp 2) (.func (.func 72) #[] #[]) ∧ Ev tm (.tmp 15) (.slice A q.length cap) ∧ Ev tm (.tmp 16) (.int .i64 q.length) ∧ Ev tm (.tmp 17) (.int .i64 i) ∧ s1 = s ∧ q.take i = r.take i ∧ i ≤ q.length ∧ kk = q.length - i) q.length ?_ ?_
  · exact ⟨0, by exact ev_, by exact ev_, by exact ev_, by exact ev_, by exact ev_, rfl, rfl, by omega, rfl⟩
  rintro kk tm s1 ⟨i, e1, e2, e15, e16, e17, rfl, hnb, hi, hkk⟩
  by_cases hin : i < q.length
  · obtain ⟨x, hx⟩ : ∃ x, q[i]? = some x := ⟨_, List.getElem?_eq_getElem hin⟩
    obtain ⟨y, hy⟩ : ∃ y, r[i]? = some y := ⟨_, List.getElem?_eq_getElem (by omega)⟩
    have htk : q.take (i + 1) = q.take i ++ [x] := by rw [List.take_add_one, hx]; rfl
    have htk2 : r.take (i + 1) = r.take i ++ [y] := by rw [List.take_add_one, hy]; rfl
    obtain ⟨o, off, c, sp, rw', cs, u, e, _, ha, hg, hu⟩ := h.qelt hx
    obtain ⟨rfl, rfl⟩ : A = some ⟨o, off, sp⟩ ∧ cap = c := by injection e with e1 e2 e3; exact ⟨e1, e3⟩
    obtain ⟨o', off', c', sp', rw'', cs', u', e', _, ha', hg', hu'⟩ := k.qelt hy
    obtain ⟨rfl, rfl⟩ : B = some ⟨o', off', sp'⟩ ∧ cap2 = c' := by injection e' with e1 e2 e3; exact ⟨e1, e3⟩
    have cc := eq72 hu hu'

    by_cases hb : x = y
    case' pos => rw [decide_eq_true hb] at cc
    case' neg => rw [decide_eq_false hb] at cc
    all_goals (repeat' (first | (apply Ab.K.ev; exact ev_) | (apply Ab.K.aops; first | (apply Xg.s; constructor) | apply Ab.S.guardG) | (apply Ab.K.aop; first | (apply Ab.O.call; (case hf => exact ev_); (case ha => exact evs_); (case hc => exact cc)) | (apply Og.s; constructor)) | (apply Ab.K.gk; first | (apply Xg.s; constructor) | (apply Ab.gY; case hw => assumption) | (apply Ab.gNT; case hw => assumption) | (apply Ab.gNF; case hw => assumption) | ((first | apply Ab.gD | apply Ab.gDN); all_goals (intro _ _; (first | contradiction | (exfalso; omega) | skip)))) | (apply Ab.K.awp; first | (apply Xg.s; constructor)) | (apply Ab.K.at_; exact at_) | (apply Ab.K.acall; first | assumption | fail) | (apply Ab.Rg.mk; omega) | (apply Ab.Lt.mk; first | decide | (simp; done) | (simp; omega) | fail) | (apply Ab.Get.mk; first | rfl | (first | (rw [Int.toNat_natCast, Nat.mul_one]; (first | exact hg | exact hg')) | (rw [Int.toNat_natCast]; (first | exact hg | exact hg')))) | (apply Ab.Nm.mk; first | exact nrm_) | (apply Xg.s; constructor) | (apply Ab.asm; assumption) | rfl | infer_instance | decide))
    rotate_left
    · exact X.roundN (q.length - (i + 1)) (by omega) ⟨i + 1, by exact ev_, by exact ev_, by exact ev_, by exact ev_, by exact ev_, rfl, by rw [htk, htk2, hnb, hb], by omega, by omega⟩
    all_goals ((first | apply RetQ.ret | apply RetQ.normal); (case he => exact evr_); (case hg => rfl))
    · rw [decide_eq_false (fun e => hb (by rw [e, hy] at hx; exact (Option.some.inj hx).symm))]; rfl
    · exact Keeps.self trivial
  · obtain rfl : i = q.length := by omega
    rw [List.take_length, hl, List.take_length] at hnb
    rw [decide_eq_true hnb]
    (repeat' (first | (apply Ab.K.ev; exact ev_) | (apply Ab.K.aops; first | (apply Xg.s; constructor) | apply Ab.S.guardG) | (apply Ab.K.aop; first | (apply Og.s; constructor)) | (apply Ab.K.gk; first | (apply Xg.s; constructor) | (apply Ab.gY; case hw => assumption) | (apply Ab.gNT; case hw => assumption) | (apply Ab.gNF; case hw => assumption) | ((first | apply Ab.gD | apply Ab.gDN); all_goals (intro _ _; (first | contradiction | (exfalso; omega) | skip)))) | (apply Ab.K.awp; first | (apply Xg.s; constructor)) | (apply Ab.K.at_; exact at_) | (apply Ab.K.acall; first | assumption | fail) | (apply Ab.Rg.mk; omega) | (apply Ab.Lt.mk; first | decide | (simp; done) | (simp; omega) | fail) | (apply Ab.Get.mk; first | rfl | (first | (rw [Int.toNat_natCast, Nat.mul_one]; (first | exact hg | exact hg')) | (rw [Int.toNat_natCast]; (first | exact hg | exact hg')))) | (apply Ab.Nm.mk; first | exact nrm_) | (apply Xg.s; constructor) | (apply Ab.asm; assumption) | rfl | infer_instance | decide))
    all_goals ((first | apply RetQ.ret | apply RetQ.normal); (case he => exact evr_); (case hg => rfl))
    · rfl
    · exact Keeps.self trivial
end Go.Proofs.Ytoiplbackllgfaa
