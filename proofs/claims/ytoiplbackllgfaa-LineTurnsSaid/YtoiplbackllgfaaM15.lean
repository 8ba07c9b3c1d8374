/- texts of this claim, one behind the other: LO, LP, LQ. -/
import Derived.Test.YtoiplbackllgfaaM12
import Derived.Test.YtoiplbackllgfaaM13
import Derived.Test.YtoiplbackllgfaaM14

/- lines: which may be, which are alike. -/
namespace Go.Proofs.Ytoiplbackllgfaa
set_option linter.unusedVariables false
set_option linter.unusedSimpArgs false
set_option linter.unusedSectionVars false
open Go.RowKit Ab HP
attribute [local irreducible] AOps AOpsD AOpsP QStep NX AOp AWp put nargs AHeap.set At Free ACall ACallE thenQ blockQ roundQ RetQ RetE Src Gr
theorem eqH {x y : Operand} {a b c a' b' c' : Int} {d d' : Bool} : ABin Try.prog .eql 23 x y (.agg #[.int .i64 a, .int .i64 b, .int .i64 c, .bool d]) (.agg #[.int .i64 a', .int .i64 b', .int .i64 c', .bool d']) (.bool (decide ((⟨a, b, c, d⟩ : H) = ⟨a', b', c', d'⟩))) := by
  refine .inr ⟨rfl, rfl, rfl, fun w => ?_⟩
  have u3 := Try.underlying3
  have a3 := Try.isAgg3
  have z3 := Try.sizeOf3
  have u4 := Try.underlying4
  have a4 := Try.isAgg4
  have z4 := Try.sizeOf4
  have hS : Try.prog.underlying 23 = some (.struct (Try.prog.fieldsOf 23)) := by kernel_rfl
  have hp : Try.prog.stoodInHeld 23 = false := by kernel_rfl
  have hg : Try.prog.eqGuardType Try.prog.depth 23 = false := by kernel_rfl
  rw [Sem.run_bind, run_eqGuard_agg w _ _ _ _ _ _ hg, Result.andThen_ok, run_eql_struct, show (10000 : Nat) = 9999 + 1 from rfl, run_equalIn_agg w 9999 23 _ _ hS hp]
  simp only [Program.fieldsOf, Try.underlying23]
  go_simp
  by_cases h1 : a = a' <;> by_cases h2 : b = b' <;> by_cases h3 : c = c' <;> by_cases h4 : d = d' <;> simp [h1, h2, h3, h4]
theorem eqT {x y : Operand} {a a' : Int} {d d' : Bool} : ABin Try.prog .eql 28 x y (.agg #[.int .i64 a, .bool d]) (.agg #[.int .i64 a', .bool d']) (.bool (decide ((⟨a, d⟩ : Tk) = ⟨a', d'⟩))) := by
  refine .inr ⟨rfl, rfl, rfl, fun w => ?_⟩
  have u3 := Try.underlying3
  have a3 := Try.isAgg3
  have z3 := Try.sizeOf3
  have u4 := Try.underlying4
  have a4 := Try.isAgg4
  have z4 := Try.sizeOf4
  have hS : Try.prog.underlying 28 = some (.struct (Try.prog.fieldsOf 28)) := by kernel_rfl
  have hp : Try.prog.stoodInHeld 28 = false := by kernel_rfl
  have hg : Try.prog.eqGuardType Try.prog.depth 28 = false := by kernel_rfl
  rw [Sem.run_bind, run_eqGuard_agg w _ _ _ _ _ _ hg, Result.andThen_ok, run_eql_struct, show (10000 : Nat) = 9999 + 1 from rfl, run_equalIn_agg w 9999 28 _ _ hS hp]
  simp only [Program.fieldsOf, Try.underlying28]
  go_simp
  by_cases h1 : a = a' <;> by_cases h4 : d = d' <;> simp [h1, h4]
structure Ln where
  h : H
  s : Sd
  t : Tk
deriving DecidableEq
def sd0 : Sd := ⟨0, 0, [], 0⟩
def tk0 : Tk := ⟨0, false⟩
def Ln.May (l : Ln) : Prop := (l.h.May ∧ l.s.May ∧ l.t.May) ∧ (l.h.cur ≠ 0 ∨ l.s = sd0 ∧ l.t = tk0)
instance instLnMay (l : Ln) : Decidable l.May := by unfold Ln.May; infer_instance
abbrev lnl (h : H) (s : Sd) (v : Value) (t : Tk) : List Value := [.int .i64 h.last, .int .i64 h.cur, .int .i64 h.prop, .bool h.over, .int .i64 s.base, .int .i64 s.sent, v, .int .i64 s.clock, .int .i64 t.next, .bool t.owes]
def RL (b : AHeap) (c : List Value) (x : Ln) : Prop := ∃ v, c = lnl x.h x.s v x.t ∧ Qt b v x.s.q
theorem datL : Dat 10 RL := ⟨fun b b' c x hs ⟨v, e, h⟩ => ⟨v, e, h.sub datQ hs⟩, fun b c x ⟨v, e, h⟩ y hy => by
  subst e
  simp only [List.mem_cons, List.not_mem_nil, or_false] at hy
  rcases hy with rfl | rfl | rfl | rfl | rfl | rfl | rfl | rfl | rfl | rfl
  all_goals first | trivial | exact h.nm, by decide⟩
theorem sd0_iff {base sent clock : Int} {q : List (List Int)} : ((base = 0 ∧ sent = 0 ∧ clock = 0) ∧ q = []) ↔ (⟨base, sent, q, clock⟩ : Sd) = sd0 := by
  unfold sd0; simp only [Sd.mk.injEq]
  exact ⟨fun ⟨⟨a, b, c⟩, d⟩ => ⟨a, b, d, c⟩, fun ⟨a, b, d, c⟩ => ⟨⟨a, b, c⟩, d⟩⟩
set_option maxRecDepth 100000 in
set_option maxHeartbeats 4000000 in
theorem checkL' {s : AHeap} {last cur prop base sent clock next : Int} {over owes : Bool} {v : Value} {q : List (List Int)} (h : Qt s v q) (hq : q.length ≤ 1000000000) :
    ACall Try.prog 14 [.agg #[.int .i64 last, .int .i64 cur, .int .i64 prop, .bool over, .int .i64 base, .int .i64 sent, v, .int .i64 clock, .int .i64 next, .bool owes]] s (.int .i64 (if Ln.May ⟨⟨last, cur, prop, over⟩, ⟨base, sent, q, clock⟩, ⟨next, owes⟩⟩ then 0 else 1)) s := by
  refine ACall.make Try.func14 rfl (by kernel_rfl) (by decide) rfl (fun N hN0 => ?_)
  have hT : Top N s := hN0
  obtain ⟨A, cap, rfl, hcap⟩ := h.isl
  obtain ⟨s1, hs1⟩ : ∃ s1 : AHeap, s1 = s.set N (.cells true 1 [.int .i64 last, .int .i64 cur, .int .i64 prop, .bool over, .int .i64 base, .int .i64 sent, .slice A q.length cap, .int .i64 clock, .int .i64 next, .bool owes]) := ⟨_, rfl⟩
  have F1 : Fr s1 s [] := by rw [hs1]; exact Fr.new (hT.free (Nat.le_refl _)) (Fr.refl _ _)
  have aN : At s1 N (.cells true 1 [.int .i64 last, .int .i64 cur, .int .i64 prop, .bool over, .int .i64 base, .int .i64 sent, .slice A q.length cap, .int .i64 clock, .int .i64 next, .bool owes]) := by rw [hs1]; exact At.hit
  have h1 : Qt s1 (.slice A q.length cap) q := h.sub datQ fun i c hc => F1 i (by simp) c hc
  have c41 := same41' (base := base) (sent := sent) (clock := clock) (base' := 0) (sent' := 0) (clock' := 0) h1 (Sl.nil : Qt s1 (.slice none 0 0) []) (by omega) (by simp)
  rw [decide_eq_decide.2 sd0_iff] at c41
  have c43 := checkS' (base := base) (sent := sent) (clock := clock) h1 hq
  have c42 := checkH (s := s1) (h := ⟨last, cur, prop, over⟩)
  have c44 := checkT (s := s1) (t := ⟨next, owes⟩)
  unfold hv at c42
  unfold tv at c44

  by_cases hh : H.May ⟨last, cur, prop, over⟩
  case neg =>
    rw [if_neg hh] at c42; rw [if_neg (fun h : Ln.May _ => hh h.1.1)]
    (repeat' (first | (apply Ab.K.ev; exact ev_) | (apply Ab.K.aops; first | (apply Xg.s; constructor) | (apply Ab.S.guardU; (case hd => rfl); (case hb => (exact ev_; done))) | apply Ab.S.guardG) | (apply Ab.K.aop; first | (first | (apply Ab.O.boxA N; (case hx => exact ev_); (case hid => exact frees_)) | (apply Ab.O.bin; (case hx => exact ev_); (case hy => exact ev_); (case hv => first | exact eqH | exact eqT))) | (apply Og.s; constructor)) | (apply Ab.K.gk; first | (apply Xg.s; constructor) | (apply Ab.gY; case hw => assumption) | (apply Ab.gNT; case hw => assumption) | (apply Ab.gNF; case hw => assumption) | ((first | apply Ab.gD | apply Ab.gDN); all_goals (intro _ _; (first | contradiction | (exfalso; omega) | skip)))) | (apply Ab.K.awp; first | (apply Xg.s; constructor)) | (apply Ab.K.at_; exact at_) | (apply Ab.K.acall; first | assumption | first | exact c41 | exact c43 | exact c42 | exact c44 | (rw [← hs1]; first | exact c41 | exact c43 | exact c42 | exact c44)) | (apply Ab.Rg.mk; omega) | (apply Ab.Lt.mk; first | decide | (simp; done) | (simp; omega) | fail) | (apply Ab.Get.mk; first | rfl | fail) | (apply Ab.Nm.mk; first | exact nrm_) | (apply Xg.s; constructor) | (apply Ab.asm; assumption) | rfl | infer_instance | decide))
    all_goals ((first | apply RetQ.ret | apply RetQ.normal); (case he => exact evr_); (case hg => rfl))
    all_goals first | rfl | exact Keeps.fr F1 (plR.nm rfl) | (rw [hs1] at F1; exact Keeps.fr F1 (plR.nm rfl))
  rw [if_pos hh] at c42
  by_cases hs : Sd.May ⟨base, sent, q, clock⟩
  case neg =>
    rw [if_neg hs] at c43; rw [if_neg (fun h : Ln.May _ => hs h.1.2.1)]
    (repeat' (first | (apply Ab.K.ev; exact ev_) | (apply Ab.K.aops; first | (apply Xg.s; constructor) | (apply Ab.S.guardU; (case hd => rfl); (case hb => (exact ev_; done))) | apply Ab.S.guardG) | (apply Ab.K.aop; first | (first | (apply Ab.O.boxA N; (case hx => exact ev_); (case hid => exact frees_)) | (apply Ab.O.bin; (case hx => exact ev_); (case hy => exact ev_); (case hv => first | exact eqH | exact eqT))) | (apply Og.s; constructor)) | (apply Ab.K.gk; first | (apply Xg.s; constructor) | (apply Ab.gY; case hw => assumption) | (apply Ab.gNT; case hw => assumption) | (apply Ab.gNF; case hw => assumption) | ((first | apply Ab.gD | apply Ab.gDN); all_goals (intro _ _; (first | contradiction | (exfalso; omega) | skip)))) | (apply Ab.K.awp; first | (apply Xg.s; constructor)) | (apply Ab.K.at_; exact at_) | (apply Ab.K.acall; first | assumption | first | exact c41 | exact c43 | exact c42 | exact c44 | (rw [← hs1]; first | exact c41 | exact c43 | exact c42 | exact c44)) | (apply Ab.Rg.mk; omega) | (apply Ab.Lt.mk; first | decide | (simp; done) | (simp; omega) | fail) | (apply Ab.Get.mk; first | rfl | fail) | (apply Ab.Nm.mk; first | exact nrm_) | (apply Xg.s; constructor) | (apply Ab.asm; assumption) | rfl | infer_instance | decide))
    all_goals ((first | apply RetQ.ret | apply RetQ.normal); (case he => exact evr_); (case hg => rfl))
    all_goals first | rfl | exact Keeps.fr F1 (plR.nm rfl) | (rw [hs1] at F1; exact Keeps.fr F1 (plR.nm rfl))
  rw [if_pos hs] at c43
  by_cases ht : Tk.May ⟨next, owes⟩
  case neg =>
    rw [if_neg ht] at c44; rw [if_neg (fun h : Ln.May _ => ht h.1.2.2)]
    (repeat' (first | (apply Ab.K.ev; exact ev_) | (apply Ab.K.aops; first | (apply Xg.s; constructor) | (apply Ab.S.guardU; (case hd => rfl); (case hb => (exact ev_; done))) | apply Ab.S.guardG) | (apply Ab.K.aop; first | (first | (apply Ab.O.boxA N; (case hx => exact ev_); (case hid => exact frees_)) | (apply Ab.O.bin; (case hx => exact ev_); (case hy => exact ev_); (case hv => first | exact eqH | exact eqT))) | (apply Og.s; constructor)) | (apply Ab.K.gk; first | (apply Xg.s; constructor) | (apply Ab.gY; case hw => assumption) | (apply Ab.gNT; case hw => assumption) | (apply Ab.gNF; case hw => assumption) | ((first | apply Ab.gD | apply Ab.gDN); all_goals (intro _ _; (first | contradiction | (exfalso; omega) | skip)))) | (apply Ab.K.awp; first | (apply Xg.s; constructor)) | (apply Ab.K.at_; exact at_) | (apply Ab.K.acall; first | assumption | first | exact c41 | exact c43 | exact c42 | exact c44 | (rw [← hs1]; first | exact c41 | exact c43 | exact c42 | exact c44)) | (apply Ab.Rg.mk; omega) | (apply Ab.Lt.mk; first | decide | (simp; done) | (simp; omega) | fail) | (apply Ab.Get.mk; first | rfl | fail) | (apply Ab.Nm.mk; first | exact nrm_) | (apply Xg.s; constructor) | (apply Ab.asm; assumption) | rfl | infer_instance | decide))
    all_goals ((first | apply RetQ.ret | apply RetQ.normal); (case he => exact evr_); (case hg => rfl))
    all_goals first | rfl | exact Keeps.fr F1 (plR.nm rfl) | (rw [hs1] at F1; exact Keeps.fr F1 (plR.nm rfl))
  rw [if_pos ht] at c44
  by_cases hc : cur = 0
  case neg =>
    rw [if_pos (show Ln.May _ from ⟨⟨hh, hs, ht⟩, .inl hc⟩)]
    (repeat' (first | (apply Ab.K.ev; exact ev_) | (apply Ab.K.aops; first | (apply Xg.s; constructor) | (apply Ab.S.guardU; (case hd => rfl); (case hb => (exact ev_; done))) | apply Ab.S.guardG) | (apply Ab.K.aop; first | (first | (apply Ab.O.boxA N; (case hx => exact ev_); (case hid => exact frees_)) | (apply Ab.O.bin; (case hx => exact ev_); (case hy => exact ev_); (case hv => first | exact eqH | exact eqT))) | (apply Og.s; constructor)) | (apply Ab.K.gk; first | (apply Xg.s; constructor) | (apply Ab.gY; case hw => assumption) | (apply Ab.gNT; case hw => assumption) | (apply Ab.gNF; case hw => assumption) | ((first | apply Ab.gD | apply Ab.gDN); all_goals (intro _ _; (first | contradiction | (exfalso; omega) | skip)))) | (apply Ab.K.awp; first | (apply Xg.s; constructor)) | (apply Ab.K.at_; exact at_) | (apply Ab.K.acall; first | assumption | first | exact c41 | exact c43 | exact c42 | exact c44 | (rw [← hs1]; first | exact c41 | exact c43 | exact c42 | exact c44)) | (apply Ab.Rg.mk; omega) | (apply Ab.Lt.mk; first | decide | (simp; done) | (simp; omega) | fail) | (apply Ab.Get.mk; first | rfl | fail) | (apply Ab.Nm.mk; first | exact nrm_) | (apply Xg.s; constructor) | (apply Ab.asm; assumption) | rfl | infer_instance | decide))
    all_goals ((first | apply RetQ.ret | apply RetQ.normal); (case he => exact evr_); (case hg => rfl))
    all_goals first | rfl | exact Keeps.fr F1 (plR.nm rfl) | (rw [hs1] at F1; exact Keeps.fr F1 (plR.nm rfl))
  by_cases hi : (⟨base, sent, q, clock⟩ : Sd) = sd0
  case neg =>
    rw [if_neg (fun h : Ln.May _ => h.2.elim (fun e => e hc) (fun e => hi e.1))]
    rw [decide_eq_false hi] at c41
    (repeat' (first | (apply Ab.K.ev; exact ev_) | (apply Ab.K.aops; first | (apply Xg.s; constructor) | (apply Ab.S.guardU; (case hd => rfl); (case hb => (exact ev_; done))) | apply Ab.S.guardG) | (apply Ab.K.aop; first | (first | (apply Ab.O.boxA N; (case hx => exact ev_); (case hid => exact frees_)) | (apply Ab.O.bin; (case hx => exact ev_); (case hy => exact ev_); (case hv => first | exact eqH | exact eqT))) | (apply Og.s; constructor)) | (apply Ab.K.gk; first | (apply Xg.s; constructor) | (apply Ab.gY; case hw => assumption) | (apply Ab.gNT; case hw => assumption) | (apply Ab.gNF; case hw => assumption) | ((first | apply Ab.gD | apply Ab.gDN); all_goals (intro _ _; (first | contradiction | (exfalso; omega) | skip)))) | (apply Ab.K.awp; first | (apply Xg.s; constructor)) | (apply Ab.K.at_; exact at_) | (apply Ab.K.acall; first | assumption | first | exact c41 | exact c43 | exact c42 | exact c44 | (rw [← hs1]; first | exact c41 | exact c43 | exact c42 | exact c44)) | (apply Ab.Rg.mk; omega) | (apply Ab.Lt.mk; first | decide | (simp; done) | (simp; omega) | fail) | (apply Ab.Get.mk; first | rfl | fail) | (apply Ab.Nm.mk; first | exact nrm_) | (apply Xg.s; constructor) | (apply Ab.asm; assumption) | rfl | infer_instance | decide))
    all_goals ((first | apply RetQ.ret | apply RetQ.normal); (case he => exact evr_); (case hg => rfl))
    all_goals first | rfl | exact Keeps.fr F1 (plR.nm rfl) | (rw [hs1] at F1; exact Keeps.fr F1 (plR.nm rfl))
  rw [decide_eq_true hi] at c41
  by_cases hj : (⟨next, owes⟩ : Tk) = ⟨0, false⟩
  case' pos => rw [if_pos (show Ln.May _ from ⟨⟨hh, hs, ht⟩, .inr ⟨hi, hj⟩⟩)]
  case' neg => rw [if_neg (fun h : Ln.May _ => h.2.elim (fun e => e hc) (fun e => hj e.2))]
  all_goals (repeat' (first | (apply Ab.K.ev; exact ev_) | (apply Ab.K.aops; first | (apply Xg.s; constructor) | (apply Ab.S.guardU; (case hd => rfl); (case hb => (exact ev_; done))) | apply Ab.S.guardG) | (apply Ab.K.aop; first | (first | (apply Ab.O.boxA N; (case hx => exact ev_); (case hid => exact frees_)) | (apply Ab.O.bin; (case hx => exact ev_); (case hy => exact ev_); (case hv => first | exact eqH | exact eqT))) | (apply Og.s; constructor)) | (apply Ab.K.gk; first | (apply Xg.s; constructor) | (apply Ab.gY; case hw => assumption) | (apply Ab.gNT; case hw => assumption) | (apply Ab.gNF; case hw => assumption) | ((first | apply Ab.gD | apply Ab.gDN); all_goals (intro _ _; (first | contradiction | (exfalso; omega) | skip)))) | (apply Ab.K.awp; first | (apply Xg.s; constructor)) | (apply Ab.K.at_; exact at_) | (apply Ab.K.acall; first | assumption | first | exact c41 | exact c43 | exact c42 | exact c44 | (rw [← hs1]; first | exact c41 | exact c43 | exact c42 | exact c44)) | (apply Ab.Rg.mk; omega) | (apply Ab.Lt.mk; first | decide | (simp; done) | (simp; omega) | fail) | (apply Ab.Get.mk; first | rfl | fail) | (apply Ab.Nm.mk; first | exact nrm_) | (apply Xg.s; constructor) | (apply Ab.asm; assumption) | rfl | infer_instance | decide))
  all_goals ((first | apply RetQ.ret | apply RetQ.normal); (case he => exact evr_); (case hg => rfl))
  all_goals first | rfl | exact Keeps.fr F1 (plR.nm rfl) | (rw [hs1] at F1; exact Keeps.fr F1 (plR.nm rfl))
theorem checkL {s : AHeap} {c : List Value} {x : Ln} (h : RL s c x) (hq : x.s.q.length ≤ 1000000000) : ACall Try.prog 14 [.agg c.toArray] s (.int .i64 (if x.May then 0 else 1)) s := by
  obtain ⟨v, rfl, hv⟩ := h
  exact checkL' hv hq
set_option maxRecDepth 100000 in
set_option maxHeartbeats 4000000 in
theorem mayL' {s : AHeap} {last cur prop base sent clock next : Int} {over owes : Bool} {v : Value} {q : List (List Int)} (h : Qt s v q) (hq : q.length ≤ 1000000000) :
    ACall Try.prog 11 [.agg #[.int .i64 last, .int .i64 cur, .int .i64 prop, .bool over, .int .i64 base, .int .i64 sent, v, .int .i64 clock, .int .i64 next, .bool owes]] s (.bool (decide (Ln.May ⟨⟨last, cur, prop, over⟩, ⟨base, sent, q, clock⟩, ⟨next, owes⟩⟩))) s := by
  refine ACall.make Try.func11 rfl (by kernel_rfl) (by decide) rfl (fun N hN0 => ?_)
  have hT : Top N s := hN0
  obtain ⟨A, cap, rfl, hcap⟩ := h.isl
  obtain ⟨s1, hs1⟩ : ∃ s1 : AHeap, s1 = s.set N (.cells true 1 [.int .i64 last, .int .i64 cur, .int .i64 prop, .bool over, .int .i64 base, .int .i64 sent, .slice A q.length cap, .int .i64 clock, .int .i64 next, .bool owes]) := ⟨_, rfl⟩
  have F1 : Fr s1 s [] := by rw [hs1]; exact Fr.new (hT.free (Nat.le_refl _)) (Fr.refl _ _)
  have aN : At s1 N (.cells true 1 [.int .i64 last, .int .i64 cur, .int .i64 prop, .bool over, .int .i64 base, .int .i64 sent, .slice A q.length cap, .int .i64 clock, .int .i64 next, .bool owes]) := by rw [hs1]; exact At.hit
  have h1 : Qt s1 (.slice A q.length cap) q := h.sub datQ fun i c hc => F1 i (by simp) c hc
  have c41 := same40' (base := base) (sent := sent) (clock := clock) (base' := 0) (sent' := 0) (clock' := 0) h1 (Sl.nil : Qt s1 (.slice none 0 0) []) (by omega) (by simp)
  rw [decide_eq_decide.2 sd0_iff] at c41
  have c43 := mayS' (base := base) (sent := sent) (clock := clock) h1 hq
  have c42 := mayH (s := s1) (h := ⟨last, cur, prop, over⟩)
  have c44 := mayT (s := s1) (t := ⟨next, owes⟩)
  unfold hv at c42
  unfold tv at c44
  by_cases hh : H.May ⟨last, cur, prop, over⟩
  case neg =>
    rw [decide_eq_false hh] at c42; rw [decide_eq_false (fun h : Ln.May _ => hh h.1.1)]
    (repeat' (first | (apply Ab.K.ev; exact ev_) | (apply Ab.K.aops; first | (apply Xg.s; constructor) | (apply Ab.S.guardU; (case hd => rfl); (case hb => (exact ev_; done))) | apply Ab.S.guardG) | (apply Ab.K.aop; first | (first | (apply Ab.O.boxA N; (case hx => exact ev_); (case hid => exact frees_)) | (apply Ab.O.bin; (case hx => exact ev_); (case hy => exact ev_); (case hv => first | exact eqH | exact eqT))) | (apply Og.s; constructor)) | (apply Ab.K.gk; first | (apply Xg.s; constructor) | (apply Ab.gY; case hw => assumption) | (apply Ab.gNT; case hw => assumption) | (apply Ab.gNF; case hw => assumption) | ((first | apply Ab.gD | apply Ab.gDN); all_goals (intro _ _; (first | contradiction | (exfalso; omega) | skip)))) | (apply Ab.K.awp; first | (apply Xg.s; constructor)) | (apply Ab.K.at_; exact at_) | (apply Ab.K.acall; first | assumption | first | exact c41 | exact c43 | exact c42 | exact c44 | (rw [← hs1]; first | exact c41 | exact c43 | exact c42 | exact c44)) | (apply Ab.Rg.mk; omega) | (apply Ab.Lt.mk; first | decide | (simp; done) | (simp; omega) | fail) | (apply Ab.Get.mk; first | rfl | fail) | (apply Ab.Nm.mk; first | exact nrm_) | (apply Xg.s; constructor) | (apply Ab.asm; assumption) | rfl | infer_instance | decide))
    all_goals ((first | apply RetQ.ret | apply RetQ.normal); (case he => exact evr_); (case hg => rfl))
    all_goals first | rfl | exact Keeps.fr F1 (plR.nm rfl) | (rw [hs1] at F1; exact Keeps.fr F1 (plR.nm rfl))
  rw [decide_eq_true hh] at c42
  by_cases hs : Sd.May ⟨base, sent, q, clock⟩
  case neg =>
    rw [decide_eq_false hs] at c43; rw [decide_eq_false (fun h : Ln.May _ => hs h.1.2.1)]
    (repeat' (first | (apply Ab.K.ev; exact ev_) | (apply Ab.K.aops; first | (apply Xg.s; constructor) | (apply Ab.S.guardU; (case hd => rfl); (case hb => (exact ev_; done))) | apply Ab.S.guardG) | (apply Ab.K.aop; first | (first | (apply Ab.O.boxA N; (case hx => exact ev_); (case hid => exact frees_)) | (apply Ab.O.bin; (case hx => exact ev_); (case hy => exact ev_); (case hv => first | exact eqH | exact eqT))) | (apply Og.s; constructor)) | (apply Ab.K.gk; first | (apply Xg.s; constructor) | (apply Ab.gY; case hw => assumption) | (apply Ab.gNT; case hw => assumption) | (apply Ab.gNF; case hw => assumption) | ((first | apply Ab.gD | apply Ab.gDN); all_goals (intro _ _; (first | contradiction | (exfalso; omega) | skip)))) | (apply Ab.K.awp; first | (apply Xg.s; constructor)) | (apply Ab.K.at_; exact at_) | (apply Ab.K.acall; first | assumption | first | exact c41 | exact c43 | exact c42 | exact c44 | (rw [← hs1]; first | exact c41 | exact c43 | exact c42 | exact c44)) | (apply Ab.Rg.mk; omega) | (apply Ab.Lt.mk; first | decide | (simp; done) | (simp; omega) | fail) | (apply Ab.Get.mk; first | rfl | fail) | (apply Ab.Nm.mk; first | exact nrm_) | (apply Xg.s; constructor) | (apply Ab.asm; assumption) | rfl | infer_instance | decide))
    all_goals ((first | apply RetQ.ret | apply RetQ.normal); (case he => exact evr_); (case hg => rfl))
    all_goals first | rfl | exact Keeps.fr F1 (plR.nm rfl) | (rw [hs1] at F1; exact Keeps.fr F1 (plR.nm rfl))
  rw [decide_eq_true hs] at c43
  by_cases ht : Tk.May ⟨next, owes⟩
  case neg =>
    rw [decide_eq_false ht] at c44; rw [decide_eq_false (fun h : Ln.May _ => ht h.1.2.2)]
    (repeat' (first | (apply Ab.K.ev; exact ev_) | (apply Ab.K.aops; first | (apply Xg.s; constructor) | (apply Ab.S.guardU; (case hd => rfl); (case hb => (exact ev_; done))) | apply Ab.S.guardG) | (apply Ab.K.aop; first | (first | (apply Ab.O.boxA N; (case hx => exact ev_); (case hid => exact frees_)) | (apply Ab.O.bin; (case hx => exact ev_); (case hy => exact ev_); (case hv => first | exact eqH | exact eqT))) | (apply Og.s; constructor)) | (apply Ab.K.gk; first | (apply Xg.s; constructor) | (apply Ab.gY; case hw => assumption) | (apply Ab.gNT; case hw => assumption) | (apply Ab.gNF; case hw => assumption) | ((first | apply Ab.gD | apply Ab.gDN); all_goals (intro _ _; (first | contradiction | (exfalso; omega) | skip)))) | (apply Ab.K.awp; first | (apply Xg.s; constructor)) | (apply Ab.K.at_; exact at_) | (apply Ab.K.acall; first | assumption | first | exact c41 | exact c43 | exact c42 | exact c44 | (rw [← hs1]; first | exact c41 | exact c43 | exact c42 | exact c44)) | (apply Ab.Rg.mk; omega) | (apply Ab.Lt.mk; first | decide | (simp; done) | (simp; omega) | fail) | (apply Ab.Get.mk; first | rfl | fail) | (apply Ab.Nm.mk; first | exact nrm_) | (apply Xg.s; constructor) | (apply Ab.asm; assumption) | rfl | infer_instance | decide))
    all_goals ((first | apply RetQ.ret | apply RetQ.normal); (case he => exact evr_); (case hg => rfl))
    all_goals first | rfl | exact Keeps.fr F1 (plR.nm rfl) | (rw [hs1] at F1; exact Keeps.fr F1 (plR.nm rfl))
  rw [decide_eq_true ht] at c44
  have hc0 : cur = 0 ∨ 0 < cur := by
    simp only [H.May] at hh
    obtain ⟨⟨a, _⟩, ⟨_, e, _⟩ | ⟨_, ⟨e, f, _⟩ | ⟨e, _⟩⟩⟩ := hh
    all_goals omega
  by_cases hc : cur = 0
  case neg =>
    rw [decide_eq_true (show Ln.May _ from ⟨⟨hh, hs, ht⟩, .inl hc⟩)]
    (repeat' (first | (apply Ab.K.ev; exact ev_) | (apply Ab.K.aops; first | (apply Xg.s; constructor) | (apply Ab.S.guardU; (case hd => rfl); (case hb => (exact ev_; done))) | apply Ab.S.guardG) | (apply Ab.K.aop; first | (first | (apply Ab.O.boxA N; (case hx => exact ev_); (case hid => exact frees_)) | (apply Ab.O.bin; (case hx => exact ev_); (case hy => exact ev_); (case hv => first | exact eqH | exact eqT))) | (apply Og.s; constructor)) | (apply Ab.K.gk; first | (apply Xg.s; constructor) | (apply Ab.gY; case hw => assumption) | (apply Ab.gNT; case hw => assumption) | (apply Ab.gNF; case hw => assumption) | ((first | apply Ab.gD | apply Ab.gDN); all_goals (intro _ _; (first | contradiction | (exfalso; omega) | skip)))) | (apply Ab.K.awp; first | (apply Xg.s; constructor)) | (apply Ab.K.at_; exact at_) | (apply Ab.K.acall; first | assumption | first | exact c41 | exact c43 | exact c42 | exact c44 | (rw [← hs1]; first | exact c41 | exact c43 | exact c42 | exact c44)) | (apply Ab.Rg.mk; omega) | (apply Ab.Lt.mk; first | decide | (simp; done) | (simp; omega) | fail) | (apply Ab.Get.mk; first | rfl | fail) | (apply Ab.Nm.mk; first | exact nrm_) | (apply Xg.s; constructor) | (apply Ab.asm; assumption) | rfl | infer_instance | decide))
    all_goals ((first | apply RetQ.ret | apply RetQ.normal); (case he => exact evr_); (case hg => rfl))
    all_goals first | rfl | exact Keeps.fr F1 (plR.nm rfl) | (rw [hs1] at F1; exact Keeps.fr F1 (plR.nm rfl))
  by_cases hi : (⟨base, sent, q, clock⟩ : Sd) = sd0
  case neg =>
    rw [decide_eq_false (fun h : Ln.May _ => h.2.elim (fun e => e hc) (fun e => hi e.1))]
    rw [decide_eq_false hi] at c41
    (repeat' (first | (apply Ab.K.ev; exact ev_) | (apply Ab.K.aops; first | (apply Xg.s; constructor) | (apply Ab.S.guardU; (case hd => rfl); (case hb => (exact ev_; done))) | apply Ab.S.guardG) | (apply Ab.K.aop; first | (first | (apply Ab.O.boxA N; (case hx => exact ev_); (case hid => exact frees_)) | (apply Ab.O.bin; (case hx => exact ev_); (case hy => exact ev_); (case hv => first | exact eqH | exact eqT))) | (apply Og.s; constructor)) | (apply Ab.K.gk; first | (apply Xg.s; constructor) | (apply Ab.gY; case hw => assumption) | (apply Ab.gNT; case hw => assumption) | (apply Ab.gNF; case hw => assumption) | ((first | apply Ab.gD | apply Ab.gDN); all_goals (intro _ _; (first | contradiction | (exfalso; omega) | skip)))) | (apply Ab.K.awp; first | (apply Xg.s; constructor)) | (apply Ab.K.at_; exact at_) | (apply Ab.K.acall; first | assumption | first | exact c41 | exact c43 | exact c42 | exact c44 | (rw [← hs1]; first | exact c41 | exact c43 | exact c42 | exact c44)) | (apply Ab.Rg.mk; omega) | (apply Ab.Lt.mk; first | decide | (simp; done) | (simp; omega) | fail) | (apply Ab.Get.mk; first | rfl | fail) | (apply Ab.Nm.mk; first | exact nrm_) | (apply Xg.s; constructor) | (apply Ab.asm; assumption) | rfl | infer_instance | decide))
    all_goals ((first | apply RetQ.ret | apply RetQ.normal); (case he => exact evr_); (case hg => rfl))
    all_goals first | rfl | exact Keeps.fr F1 (plR.nm rfl) | (rw [hs1] at F1; exact Keeps.fr F1 (plR.nm rfl))
  rw [decide_eq_true hi] at c41
  rw [show decide (Ln.May ⟨⟨last, cur, prop, over⟩, ⟨base, sent, q, clock⟩, ⟨next, owes⟩⟩) = decide ((⟨next, owes⟩ : Tk) = ⟨0, false⟩) from decide_eq_decide.2 ⟨fun h => h.2.elim (fun e => absurd hc e) (fun e => e.2), fun e => ⟨⟨hh, hs, ht⟩, .inr ⟨hi, e⟩⟩⟩]
  (repeat' (first | (apply Ab.K.ev; exact ev_) | (apply Ab.K.aops; first | (apply Xg.s; constructor) | (apply Ab.S.guardU; (case hd => rfl); (case hb => (exact ev_; done))) | apply Ab.S.guardG) | (apply Ab.K.aop; first | (first | (apply Ab.O.boxA N; (case hx => exact ev_); (case hid => exact frees_)) | (apply Ab.O.bin; (case hx => exact ev_); (case hy => exact ev_); (case hv => first | exact eqH | exact eqT))) | (apply Og.s; constructor)) | (apply Ab.K.gk; first | (apply Xg.s; constructor) | (apply Ab.gY; case hw => assumption) | (apply Ab.gNT; case hw => assumption) | (apply Ab.gNF; case hw => assumption) | ((first | apply Ab.gD | apply Ab.gDN); all_goals (intro _ _; (first | contradiction | (exfalso; omega) | skip)))) | (apply Ab.K.awp; first | (apply Xg.s; constructor)) | (apply Ab.K.at_; exact at_) | (apply Ab.K.acall; first | assumption | first | exact c41 | exact c43 | exact c42 | exact c44 | (rw [← hs1]; first | exact c41 | exact c43 | exact c42 | exact c44)) | (apply Ab.Rg.mk; omega) | (apply Ab.Lt.mk; first | decide | (simp; done) | (simp; omega) | fail) | (apply Ab.Get.mk; first | rfl | fail) | (apply Ab.Nm.mk; first | exact nrm_) | (apply Xg.s; constructor) | (apply Ab.asm; assumption) | rfl | infer_instance | decide))
  all_goals ((first | apply RetQ.ret | apply RetQ.normal); (case he => exact evr_); (case hg => rfl))
  all_goals first | rfl | exact Keeps.fr F1 (plR.nm rfl) | (simp only [resV]; congr)
theorem mayL {s : AHeap} {c : List Value} {x : Ln} (h : RL s c x) (hq : x.s.q.length ≤ 1000000000) : ACall Try.prog 11 [.agg c.toArray] s (.bool (decide x.May)) s := by
  obtain ⟨v, rfl, hv⟩ := h
  exact mayL' hv hq
set_option maxRecDepth 100000 in
set_option maxHeartbeats 4000000 in
theorem same17' {s : AHeap} {h h' : H} {x x' : Sd} {t t' : Tk} {v w : Value} (hv : Qt s v x.q) (hw : Qt s w x'.q) (hq : x.q.length ≤ 1000000000) (hr : x'.q.length ≤ 1000000000) :
    ACall Try.prog 17 [.agg (lnl h x v t).toArray, .agg (lnl h' x' w t').toArray] s (.bool (decide ((⟨h, x, t⟩ : Ln) = ⟨h', x', t'⟩))) s := by
  obtain ⟨last, cur, prop, over⟩ := h
  obtain ⟨last', cur', prop', over'⟩ := h'
  obtain ⟨base, sent, q, clock⟩ := x
  obtain ⟨base', sent', q', clock'⟩ := x'
  obtain ⟨next, owes⟩ := t
  obtain ⟨next', owes'⟩ := t'
  change ACall Try.prog 17 [.agg #[.int .i64 last, .int .i64 cur, .int .i64 prop, .bool over, .int .i64 base, .int .i64 sent, v, .int .i64 clock, .int .i64 next, .bool owes], .agg #[.int .i64 last', .int .i64 cur', .int .i64 prop', .bool over', .int .i64 base', .int .i64 sent', w, .int .i64 clock', .int .i64 next', .bool owes']] s _ s
  refine ACall.make Try.func17 rfl (by kernel_rfl) (by decide) rfl (fun N hN0 => ?_)
  have hT : Top N s := hN0
  obtain ⟨A, cap, rfl, hcap⟩ := hv.isl
  obtain ⟨B, cap2, rfl, hcap2⟩ := hw.isl
  obtain ⟨s1, hs1⟩ : ∃ s1 : AHeap, s1 = (s.set N (.cells true 1 [.int .i64 last, .int .i64 cur, .int .i64 prop, .bool over, .int .i64 base, .int .i64 sent, .slice A q.length cap, .int .i64 clock, .int .i64 next, .bool owes])).set (N + 1) (.cells true 1 [.int .i64 last', .int .i64 cur', .int .i64 prop', .bool over', .int .i64 base', .int .i64 sent', .slice B q'.length cap2, .int .i64 clock', .int .i64 next', .bool owes']) := ⟨_, rfl⟩
  have F1 : Fr s1 s [] := by rw [hs1]; exact Fr.new (hT.free (by omega)) (Fr.new (hT.free (Nat.le_refl _)) (Fr.refl _ _))
  have hS : Sub s s1 := fun i c hc => F1 i (by simp) c hc
  have cc := same40' (base := base) (sent := sent) (clock := clock) (base' := base') (sent' := sent') (clock' := clock') (hv.sub datQ hS) (hw.sub datQ hS) hq hr
  have e1 : ((base = base' ∧ sent = sent' ∧ clock = clock') ∧ q = q') ↔ (⟨base, sent, q, clock⟩ : Sd) = ⟨base', sent', q', clock'⟩ := by
    simp only [Sd.mk.injEq]
    exact ⟨fun ⟨⟨a, b, c⟩, d⟩ => ⟨a, b, d, c⟩, fun ⟨a, b, d, c⟩ => ⟨⟨a, b, c⟩, d⟩⟩
  rw [decide_eq_decide.2 e1] at cc

  by_cases hh : (⟨last, cur, prop, over⟩ : H) = ⟨last', cur', prop', over'⟩
  case neg =>
    rw [decide_eq_false (fun e : (⟨_, _, _⟩ : Ln) = _ => hh (congrArg Ln.h e))]
    (repeat' (first | (apply Ab.K.ev; exact ev_) | (apply Ab.K.aops; first | (apply Xg.s; constructor) | (apply Ab.S.guardU; (case hd => rfl); (case hb => (exact ev_; done))) | apply Ab.S.guardG) | (apply Ab.K.aop; first | (first | (apply Ab.O.boxA N; (case hx => exact ev_); (case hid => exact frees_)) | (apply Ab.O.boxA (N + 1); (case hx => exact ev_); (case hid => exact frees_)) | (apply Ab.O.bin; (case hx => exact ev_); (case hy => exact ev_); (case hv => first | exact eqH | exact eqT))) | (apply Og.s; constructor)) | (apply Ab.K.gk; first | (apply Xg.s; constructor) | (apply Ab.gY; case hw => assumption) | (apply Ab.gNT; case hw => assumption) | (apply Ab.gNF; case hw => assumption) | ((first | apply Ab.gD | apply Ab.gDN); all_goals (intro _ _; (first | contradiction | (exfalso; omega) | skip)))) | (apply Ab.K.awp; first | (apply Xg.s; constructor)) | (apply Ab.K.at_; exact at_) | (apply Ab.K.acall; first | assumption | (rw [← hs1]; exact cc)) | (apply Ab.Rg.mk; omega) | (apply Ab.Lt.mk; first | decide | (simp; done) | (simp; omega) | fail) | (apply Ab.Get.mk; first | rfl | fail) | (apply Ab.Nm.mk; first | exact nrm_) | (apply Xg.s; constructor) | (apply Ab.asm; assumption) | rfl | infer_instance | decide))
    all_goals ((first | apply RetQ.ret | apply RetQ.normal); (case he => exact evr_); (case hg => rfl))
    all_goals first | rfl | exact Keeps.fr F1 (plR.nm rfl) | (rw [hs1] at F1; exact Keeps.fr F1 (plR.nm rfl))
  by_cases ht : (⟨next, owes⟩ : Tk) = ⟨next', owes'⟩
  case neg =>
    rw [decide_eq_false (fun e : (⟨_, _, _⟩ : Ln) = _ => ht (congrArg Ln.t e))]
    (repeat' (first | (apply Ab.K.ev; exact ev_) | (apply Ab.K.aops; first | (apply Xg.s; constructor) | (apply Ab.S.guardU; (case hd => rfl); (case hb => (exact ev_; done))) | apply Ab.S.guardG) | (apply Ab.K.aop; first | (first | (apply Ab.O.boxA N; (case hx => exact ev_); (case hid => exact frees_)) | (apply Ab.O.boxA (N + 1); (case hx => exact ev_); (case hid => exact frees_)) | (apply Ab.O.bin; (case hx => exact ev_); (case hy => exact ev_); (case hv => first | exact eqH | exact eqT))) | (apply Og.s; constructor)) | (apply Ab.K.gk; first | (apply Xg.s; constructor) | (apply Ab.gY; case hw => assumption) | (apply Ab.gNT; case hw => assumption) | (apply Ab.gNF; case hw => assumption) | ((first | apply Ab.gD | apply Ab.gDN); all_goals (intro _ _; (first | contradiction | (exfalso; omega) | skip)))) | (apply Ab.K.awp; first | (apply Xg.s; constructor)) | (apply Ab.K.at_; exact at_) | (apply Ab.K.acall; first | assumption | (rw [← hs1]; exact cc)) | (apply Ab.Rg.mk; omega) | (apply Ab.Lt.mk; first | decide | (simp; done) | (simp; omega) | fail) | (apply Ab.Get.mk; first | rfl | fail) | (apply Ab.Nm.mk; first | exact nrm_) | (apply Xg.s; constructor) | (apply Ab.asm; assumption) | rfl | infer_instance | decide))
    all_goals ((first | apply RetQ.ret | apply RetQ.normal); (case he => exact evr_); (case hg => rfl))
    all_goals first | rfl | exact Keeps.fr F1 (plR.nm rfl) | (rw [hs1] at F1; exact Keeps.fr F1 (plR.nm rfl))
  rw [show decide ((⟨⟨last, cur, prop, over⟩, ⟨base, sent, q, clock⟩, ⟨next, owes⟩⟩ : Ln) = ⟨⟨last', cur', prop', over'⟩, ⟨base', sent', q', clock'⟩, ⟨next', owes'⟩⟩) = decide ((⟨base, sent, q, clock⟩ : Sd) = ⟨base', sent', q', clock'⟩) from decide_eq_decide.2 ⟨fun e => congrArg Ln.s e, fun e => by rw [hh, ht, e]⟩]
  (repeat' (first | (apply Ab.K.ev; exact ev_) | (apply Ab.K.aops; first | (apply Xg.s; constructor) | (apply Ab.S.guardU; (case hd => rfl); (case hb => (exact ev_; done))) | apply Ab.S.guardG) | (apply Ab.K.aop; first | (first | (apply Ab.O.boxA N; (case hx => exact ev_); (case hid => exact frees_)) | (apply Ab.O.boxA (N + 1); (case hx => exact ev_); (case hid => exact frees_)) | (apply Ab.O.bin; (case hx => exact ev_); (case hy => exact ev_); (case hv => first | exact eqH | exact eqT))) | (apply Og.s; constructor)) | (apply Ab.K.gk; first | (apply Xg.s; constructor) | (apply Ab.gY; case hw => assumption) | (apply Ab.gNT; case hw => assumption) | (apply Ab.gNF; case hw => assumption) | ((first | apply Ab.gD | apply Ab.gDN); all_goals (intro _ _; (first | contradiction | (exfalso; omega) | skip)))) | (apply Ab.K.awp; first | (apply Xg.s; constructor)) | (apply Ab.K.at_; exact at_) | (apply Ab.K.acall; first | assumption | (rw [← hs1]; exact cc)) | (apply Ab.Rg.mk; omega) | (apply Ab.Lt.mk; first | decide | (simp; done) | (simp; omega) | fail) | (apply Ab.Get.mk; first | rfl | fail) | (apply Ab.Nm.mk; first | exact nrm_) | (apply Xg.s; constructor) | (apply Ab.asm; assumption) | rfl | infer_instance | decide))
  all_goals ((first | apply RetQ.ret | apply RetQ.normal); (case he => exact evr_); (case hg => rfl))
  all_goals first | rfl | exact Keeps.fr F1 (plR.nm rfl) | (simp only [resV]; congr)
theorem same17 {s : AHeap} {c d : List Value} {x y : Ln} (h : RL s c x) (k : RL s d y) (hq : x.s.q.length ≤ 1000000000) (hr : y.s.q.length ≤ 1000000000) : ACall Try.prog 17 [.agg c.toArray, .agg d.toArray] s (.bool (decide (x = y))) s := by
  obtain ⟨v, rfl, hv⟩ := h; obtain ⟨w, rfl, hw⟩ := k
  exact same17' hv hw hq hr
set_option maxRecDepth 100000 in
set_option maxHeartbeats 4000000 in
theorem same23' {s : AHeap} {h h' : H} {x x' : Sd} {t t' : Tk} {v w : Value} (hv : Qt s v x.q) (hw : Qt s w x'.q) (hq : x.q.length ≤ 1000000000) (hr : x'.q.length ≤ 1000000000) :
    ACall Try.prog 23 [.agg (lnl h x v t).toArray, .agg (lnl h' x' w t').toArray] s (.bool (decide ((⟨h, x, t⟩ : Ln) = ⟨h', x', t'⟩))) s := by
  obtain ⟨last, cur, prop, over⟩ := h
  obtain ⟨last', cur', prop', over'⟩ := h'
  obtain ⟨base, sent, q, clock⟩ := x
  obtain ⟨base', sent', q', clock'⟩ := x'
  obtain ⟨next, owes⟩ := t
  obtain ⟨next', owes'⟩ := t'
  change ACall Try.prog 23 [.agg #[.int .i64 last, .int .i64 cur, .int .i64 prop, .bool over, .int .i64 base, .int .i64 sent, v, .int .i64 clock, .int .i64 next, .bool owes], .agg #[.int .i64 last', .int .i64 cur', .int .i64 prop', .bool over', .int .i64 base', .int .i64 sent', w, .int .i64 clock', .int .i64 next', .bool owes']] s _ s
  refine ACall.make Try.func23 rfl (by kernel_rfl) (by decide) rfl (fun N hN0 => ?_)
  have hT : Top N s := hN0
  obtain ⟨A, cap, rfl, hcap⟩ := hv.isl
  obtain ⟨B, cap2, rfl, hcap2⟩ := hw.isl
  obtain ⟨s1, hs1⟩ : ∃ s1 : AHeap, s1 = (s.set N (.cells true 1 [.int .i64 last, .int .i64 cur, .int .i64 prop, .bool over, .int .i64 base, .int .i64 sent, .slice A q.length cap, .int .i64 clock, .int .i64 next, .bool owes])).set (N + 1) (.cells true 1 [.int .i64 last', .int .i64 cur', .int .i64 prop', .bool over', .int .i64 base', .int .i64 sent', .slice B q'.length cap2, .int .i64 clock', .int .i64 next', .bool owes']) := ⟨_, rfl⟩
  have F1 : Fr s1 s [] := by rw [hs1]; exact Fr.new (hT.free (by omega)) (Fr.new (hT.free (Nat.le_refl _)) (Fr.refl _ _))
  have hS : Sub s s1 := fun i c hc => F1 i (by simp) c hc
  have cc := same41' (base := base) (sent := sent) (clock := clock) (base' := base') (sent' := sent') (clock' := clock') (hv.sub datQ hS) (hw.sub datQ hS) hq hr
  have e1 : ((base = base' ∧ sent = sent' ∧ clock = clock') ∧ q = q') ↔ (⟨base, sent, q, clock⟩ : Sd) = ⟨base', sent', q', clock'⟩ := by
    simp only [Sd.mk.injEq]
    exact ⟨fun ⟨⟨a, b, c⟩, d⟩ => ⟨a, b, d, c⟩, fun ⟨a, b, d, c⟩ => ⟨⟨a, b, c⟩, d⟩⟩
  rw [decide_eq_decide.2 e1] at cc

  by_cases hh : (⟨last, cur, prop, over⟩ : H) = ⟨last', cur', prop', over'⟩
  case neg =>
    rw [decide_eq_false (fun e : (⟨_, _, _⟩ : Ln) = _ => hh (congrArg Ln.h e))]
    (repeat' (first | (apply Ab.K.ev; exact ev_) | (apply Ab.K.aops; first | (apply Xg.s; constructor) | (apply Ab.S.guardU; (case hd => rfl); (case hb => (exact ev_; done))) | apply Ab.S.guardG) | (apply Ab.K.aop; first | (first | (apply Ab.O.boxA N; (case hx => exact ev_); (case hid => exact frees_)) | (apply Ab.O.boxA (N + 1); (case hx => exact ev_); (case hid => exact frees_)) | (apply Ab.O.bin; (case hx => exact ev_); (case hy => exact ev_); (case hv => first | exact eqH | exact eqT))) | (apply Og.s; constructor)) | (apply Ab.K.gk; first | (apply Xg.s; constructor) | (apply Ab.gY; case hw => assumption) | (apply Ab.gNT; case hw => assumption) | (apply Ab.gNF; case hw => assumption) | ((first | apply Ab.gD | apply Ab.gDN); all_goals (intro _ _; (first | contradiction | (exfalso; omega) | skip)))) | (apply Ab.K.awp; first | (apply Xg.s; constructor)) | (apply Ab.K.at_; exact at_) | (apply Ab.K.acall; first | assumption | (rw [← hs1]; exact cc)) | (apply Ab.Rg.mk; omega) | (apply Ab.Lt.mk; first | decide | (simp; done) | (simp; omega) | fail) | (apply Ab.Get.mk; first | rfl | fail) | (apply Ab.Nm.mk; first | exact nrm_) | (apply Xg.s; constructor) | (apply Ab.asm; assumption) | rfl | infer_instance | decide))
    all_goals ((first | apply RetQ.ret | apply RetQ.normal); (case he => exact evr_); (case hg => rfl))
    all_goals first | rfl | exact Keeps.fr F1 (plR.nm rfl) | (rw [hs1] at F1; exact Keeps.fr F1 (plR.nm rfl))
  by_cases ht : (⟨next, owes⟩ : Tk) = ⟨next', owes'⟩
  case neg =>
    rw [decide_eq_false (fun e : (⟨_, _, _⟩ : Ln) = _ => ht (congrArg Ln.t e))]
    (repeat' (first | (apply Ab.K.ev; exact ev_) | (apply Ab.K.aops; first | (apply Xg.s; constructor) | (apply Ab.S.guardU; (case hd => rfl); (case hb => (exact ev_; done))) | apply Ab.S.guardG) | (apply Ab.K.aop; first | (first | (apply Ab.O.boxA N; (case hx => exact ev_); (case hid => exact frees_)) | (apply Ab.O.boxA (N + 1); (case hx => exact ev_); (case hid => exact frees_)) | (apply Ab.O.bin; (case hx => exact ev_); (case hy => exact ev_); (case hv => first | exact eqH | exact eqT))) | (apply Og.s; constructor)) | (apply Ab.K.gk; first | (apply Xg.s; constructor) | (apply Ab.gY; case hw => assumption) | (apply Ab.gNT; case hw => assumption) | (apply Ab.gNF; case hw => assumption) | ((first | apply Ab.gD | apply Ab.gDN); all_goals (intro _ _; (first | contradiction | (exfalso; omega) | skip)))) | (apply Ab.K.awp; first | (apply Xg.s; constructor)) | (apply Ab.K.at_; exact at_) | (apply Ab.K.acall; first | assumption | (rw [← hs1]; exact cc)) | (apply Ab.Rg.mk; omega) | (apply Ab.Lt.mk; first | decide | (simp; done) | (simp; omega) | fail) | (apply Ab.Get.mk; first | rfl | fail) | (apply Ab.Nm.mk; first | exact nrm_) | (apply Xg.s; constructor) | (apply Ab.asm; assumption) | rfl | infer_instance | decide))
    all_goals ((first | apply RetQ.ret | apply RetQ.normal); (case he => exact evr_); (case hg => rfl))
    all_goals first | rfl | exact Keeps.fr F1 (plR.nm rfl) | (rw [hs1] at F1; exact Keeps.fr F1 (plR.nm rfl))
  rw [show decide ((⟨⟨last, cur, prop, over⟩, ⟨base, sent, q, clock⟩, ⟨next, owes⟩⟩ : Ln) = ⟨⟨last', cur', prop', over'⟩, ⟨base', sent', q', clock'⟩, ⟨next', owes'⟩⟩) = decide ((⟨base, sent, q, clock⟩ : Sd) = ⟨base', sent', q', clock'⟩) from decide_eq_decide.2 ⟨fun e => congrArg Ln.s e, fun e => by rw [hh, ht, e]⟩]
  (repeat' (first | (apply Ab.K.ev; exact ev_) | (apply Ab.K.aops; first | (apply Xg.s; constructor) | (apply Ab.S.guardU; (case hd => rfl); (case hb => (exact ev_; done))) | apply Ab.S.guardG) | (apply Ab.K.aop; first | (first | (apply Ab.O.boxA N; (case hx => exact ev_); (case hid => exact frees_)) | (apply Ab.O.boxA (N + 1); (case hx => exact ev_); (case hid => exact frees_)) | (apply Ab.O.bin; (case hx => exact ev_); (case hy => exact ev_); (case hv => first | exact eqH | exact eqT))) | (apply Og.s; constructor)) | (apply Ab.K.gk; first | (apply Xg.s; constructor) | (apply Ab.gY; case hw => assumption) | (apply Ab.gNT; case hw => assumption) | (apply Ab.gNF; case hw => assumption) | ((first | apply Ab.gD | apply Ab.gDN); all_goals (intro _ _; (first | contradiction | (exfalso; omega) | skip)))) | (apply Ab.K.awp; first | (apply Xg.s; constructor)) | (apply Ab.K.at_; exact at_) | (apply Ab.K.acall; first | assumption | (rw [← hs1]; exact cc)) | (apply Ab.Rg.mk; omega) | (apply Ab.Lt.mk; first | decide | (simp; done) | (simp; omega) | fail) | (apply Ab.Get.mk; first | rfl | fail) | (apply Ab.Nm.mk; first | exact nrm_) | (apply Xg.s; constructor) | (apply Ab.asm; assumption) | rfl | infer_instance | decide))
  all_goals ((first | apply RetQ.ret | apply RetQ.normal); (case he => exact evr_); (case hg => rfl))
  all_goals first | rfl | exact Keeps.fr F1 (plR.nm rfl) | (simp only [resV]; congr)
theorem same23 {s : AHeap} {c d : List Value} {x y : Ln} (h : RL s c x) (k : RL s d y) (hq : x.s.q.length ≤ 1000000000) (hr : y.s.q.length ≤ 1000000000) : ACall Try.prog 23 [.agg c.toArray, .agg d.toArray] s (.bool (decide (x = y))) s := by
  obtain ⟨v, rfl, hv⟩ := h; obtain ⟨w, rfl, hw⟩ := k
  exact same23' hv hw hq hr
end Go.Proofs.Ytoiplbackllgfaa

/- lines: a line of its own memory; new ones; ends. -/
namespace Go.Proofs.Ytoiplbackllgfaa
set_option linter.unusedVariables false
set_option linter.unusedSimpArgs false
set_option linter.unusedSectionVars false
open Go.RowKit Ab HP
attribute [local irreducible] AOps AOpsD AOpsP QStep NX AOp AWp put nargs AHeap.set At Free ACall ACallE thenQ blockQ roundQ RetQ RetE Src Gr
structure Nw where
  frames : List Fm
  came : List (List Int)
  down : Bool
  ses : Int
deriving DecidableEq
def nw0 : Nw := ⟨[], [], false, 0⟩
def RW (b : AHeap) (c : List Value) (x : Nw) : Prop := ∃ vf vc, c = [vf, vc, .bool x.down, .int .i64 x.ses] ∧ Sl b 5 (RF b) vf x.frames ∧ Qt b vc x.came
theorem datW : Dat 4 RW := ⟨fun b b' c x hs ⟨v, w, e, h, k⟩ => ⟨v, w, e, h.sub datF hs, k.sub datQ hs⟩, fun b c x ⟨v, w, e, h, k⟩ y hy => by
  subst e
  simp only [List.mem_cons, List.not_mem_nil, or_false] at hy
  rcases hy with rfl | rfl | rfl | rfl
  · exact h.nm
  · exact k.nm
  · trivial
  · trivial, by decide⟩
theorem RW.zero (b : AHeap) : RW b [.slice none 0 0, .slice none 0 0, .bool false, .int .i64 0] nw0 := ⟨_, _, rfl, .nil, .nil⟩
/-- A line. -/
def L1 (y : Ln) (r : Value) (b : AHeap) : Prop := ∃ c, r = .agg c.toArray ∧ RL b c y
theorem L1.mk {y : Ln} {b : AHeap} {c : List Value} (h : RL b c y) : L1 y (resV [.agg c.toArray]) b ∧ nmR (fun i => (b i).isSome = true) (resV [.agg c.toArray]) := ⟨⟨c, rfl, h⟩, nmGR (datL.nm _ _ _ h)⟩
/-- A line and news. -/
def LW (y : Ln) (n : Nw) (r : Value) (b : AHeap) : Prop := ∃ c d, r = .tuple #[.agg c.toArray, .agg d.toArray] ∧ RL b c y ∧ RW b d n
theorem LW.mk {y : Ln} {n : Nw} {b : AHeap} {c d : List Value} (h : RL b c y) (k : RW b d n) : LW y n (resV [.agg c.toArray, .agg d.toArray]) b ∧ nmR (fun i => (b i).isSome = true) (resV [.agg c.toArray, .agg d.toArray]) := by
  refine ⟨⟨c, d, rfl, h, k⟩, ?_⟩
  refine nmT (l := [_, _]) fun x hx => ?_
  simp only [List.mem_cons, List.not_mem_nil, or_false] at hx
  rcases hx with rfl | rfl
  · exact nmG (datL.nm _ _ _ h)
  · exact nmG (datW.nm _ _ _ k)
/-- A line, news and an error. -/
def LWE (y : Ln) (n : Nw) (e : Int) (r : Value) (b : AHeap) : Prop := ∃ c d, r = .tuple #[.agg c.toArray, .agg d.toArray, .int .i64 e] ∧ RL b c y ∧ RW b d n
theorem LWE.mk {y : Ln} {n : Nw} {e : Int} {b : AHeap} {c d : List Value} (h : RL b c y) (k : RW b d n) : LWE y n e (resV [.agg c.toArray, .agg d.toArray, .int .i64 e]) b ∧ nmR (fun i => (b i).isSome = true) (resV [.agg c.toArray, .agg d.toArray, .int .i64 e]) := by
  refine ⟨⟨c, d, rfl, h, k⟩, ?_⟩
  refine nmT (l := [_, _, _]) fun x hx => ?_
  simp only [List.mem_cons, List.not_mem_nil, or_false] at hx
  rcases hx with rfl | rfl | rfl
  · exact nmG (datL.nm _ _ _ h)
  · exact nmG (datW.nm _ _ _ k)
  · trivial
/-- A line and an error. -/
def LE (y : Ln) (e : Int) (r : Value) (b : AHeap) : Prop := ∃ c, r = .tuple #[.agg c.toArray, .int .i64 e] ∧ RL b c y
theorem LE.mk {y : Ln} {e : Int} {b : AHeap} {c : List Value} (h : RL b c y) : LE y e (resV [.agg c.toArray, .int .i64 e]) b ∧ nmR (fun i => (b i).isSome = true) (resV [.agg c.toArray, .int .i64 e]) := by
  refine ⟨⟨c, rfl, h⟩, ?_⟩
  refine nmT (l := [_, _]) fun x hx => ?_
  simp only [List.mem_cons, List.not_mem_nil, or_false] at hx
  rcases hx with rfl | rfl
  · exact nmG (datL.nm _ _ _ h)
  · trivial
def ln0 : Ln := ⟨⟨0, 0, 0, false⟩, sd0, tk0⟩
theorem RL.h (h : H) (b : AHeap) : RL b (lnl h sd0 (.slice none 0 0) tk0) ⟨h, sd0, tk0⟩ := ⟨_, rfl, .nil⟩
abbrev lna (last cur prop : Int) (over : Bool) (base sent : Int) (v : Value) (clock next : Int) (owes : Bool) : List Value := [.int .i64 last, .int .i64 cur, .int .i64 prop, .bool over, .int .i64 base, .int .i64 sent, v, .int .i64 clock, .int .i64 next, .bool owes]
abbrev ln00 : List Value := [.int .i64 0, .int .i64 0, .int .i64 0, .bool false, .int .i64 0, .int .i64 0, .slice none 0 0, .int .i64 0, .int .i64 0, .bool false]
abbrev nw00 : List Value := [.slice none 0 0, .slice none 0 0, .bool false, .int .i64 0]
set_option maxHeartbeats 4000000 in
theorem own33' {s b : AHeap} {last cur prop base sent clock next : Int} {over owes : Bool} {v : Value} {q : List (List Int)} (hb : Sub b s) (h : Qt b v q) (hq : q.length ≤ 1000000) (hl : ∀ x ∈ q, x.length ≤ 1000000000) :
    ACallE Try.prog 33 [.agg (lna last cur prop over base sent v clock next owes).toArray] s (Pu s b (L1 ⟨⟨last, cur, prop, over⟩, ⟨base, sent, q, clock⟩, ⟨next, owes⟩⟩)) := by
  refine ACallE.make Try.func33 rfl (by kernel_rfl) (by decide) rfl (fun N hN0 => ?_)
  have hT : Top N s := hN0
  obtain ⟨A, cap, rfl, hcap⟩ := h.isl
  obtain ⟨s1, hs1⟩ : ∃ s1 : AHeap, s1 = (s.set N (.cells true 1 (lna last cur prop over base sent (.slice A q.length cap) clock next owes))).set (N + 1) (.cells true 1 ln00) := ⟨_, rfl⟩
  have I1 : Inv s b s1 b := by rw [hs1]; exact ((Inv.refl hb).boxT hT (Nat.le_refl _)).boxT hT.new (Nat.le_refl _)
  have PN : Prv s s1 b N := by rw [hs1]; exact (Prv.mk' (Inv.refl hb) (hT.none (Nat.le_refl _))).set
  have PN1 : Prv s s1 b (N + 1) := by rw [hs1]; exact Prv.mk' ((Inv.refl hb).boxT hT (Nat.le_refl _)) (hT.new.none (Nat.le_refl _))
  have T1 : Top (N + 2) s1 := by rw [hs1]; exact hT.new.new
  have aN : At s1 N (.cells true 1 (lna last cur prop over base sent (.slice A q.length cap) clock next owes)) := by rw [hs1]; exact at_
  have aN1 : At s1 (N + 1) (.cells true 1 ln00) := by rw [hs1]; exact At.hit
  (repeat' (first | (apply Ab.K.ev; exact ev_) | (apply Ab.K.aops; first | (apply Xg.s; constructor) | apply Ab.S.guardG) | (apply Ab.K.aop; first | (first | (apply Ab.O.boxA N; (case hx => exact ev_); (case hid => exact frees_)) | (apply Ab.O.allocA (N + 1); (case hid => exact frees_); (case hp => rfl))) | (apply Og.s; constructor)) | (apply Ab.K.gk; first | (apply Xg.s; constructor) | (apply Ab.gY; case hw => assumption) | (apply Ab.gNT; case hw => assumption) | (apply Ab.gNF; case hw => assumption) | ((first | apply Ab.gD | apply Ab.gDN); all_goals (intro _ _; (first | contradiction | (exfalso; omega) | skip)))) | (apply Ab.K.awp; first | (apply Xg.s; constructor)) | (apply Ab.K.at_; exact at_) | (apply Ab.K.acall; first | assumption | fail) | (apply Ab.Rg.mk; omega) | (apply Ab.Lt.mk; first | decide | (simp; done) | (simp; omega) | fail) | (apply Ab.Get.mk; first | rfl | fail) | (apply Ab.Nm.mk; first | exact nrm_) | (apply Xg.s; constructor) | (apply Ab.asm; assumption) | rfl | infer_instance | decide))
  rw [← hs1]
  refine AWp.loop (fun kk tm s2 => ∃ (i M : Nat) (w : Value) (on : Option Nat) (xs : List Value) (b1 : AHeap), Ev tm (.tmp 1) (.pointer (some ⟨N, 0, none⟩)) ∧ Ev tm (.tmp 2) (.pointer (some ⟨N + 1, 0, none⟩)) ∧ Ev tm (.tmp 3) w ∧ Ev tm (.tmp 8) (.slice A q.length cap) ∧ Ev tm (.tmp 9) (.int .i64 q.length) ∧ Ev tm (.tmp 10) (.int .i64 i) ∧ At s2 N (.cells true 1 (lna last cur prop over base sent (.slice A q.length cap) clock next owes)) ∧ At s2 (N + 1) (.cells true 1 ln00) ∧ Inv s b s2 b1 ∧ Prv s s2 b1 N ∧ Prv s s2 b1 (N + 1) ∧ Gr s2 1 (N + 2) w on i xs ∧ Cs 1 (RQ b1) xs (q.take i) ∧ (∀ o, on = some o → Prv s s2 b1 o) ∧ Top M s2 ∧ N + 2 ≤ M ∧ i ≤ q.length ∧ kk = q.length - i) q.length ?_ ?_
  · exact ⟨0, N + 2, _, _, [], b, by exact ev_, by exact ev_, by exact ev_, by exact ev_, by exact ev_, by exact ev_, aN, aN1, I1, PN, PN1, Gr.nil, Cs.nil, (fun o e => by cases e), T1, Nat.le_refl _, by omega, rfl⟩
  clear I1 PN PN1 T1 aN aN1 hs1
  rintro kk tm s2 ⟨i, M, w, on, xs, b1, e1, e2, e3, e8, e9, e10, aN, aN1, I, PN, PN1, G, C, hP, T, hMM, hi, hkk⟩
  by_cases hin : i < q.length
  · obtain ⟨x, hx⟩ : ∃ x, q[i]? = some x := ⟨_, List.getElem?_eq_getElem hin⟩
    have htk : q.take (i + 1) = q.take i ++ [x] := by rw [List.take_add_one, hx]; rfl
    obtain ⟨o, off, c, sp, rw', cs, u, e, _, ha, hg, hu⟩ := h.qelt hx
    obtain ⟨rfl, rfl⟩ : A = some ⟨o, off, sp⟩ ∧ cap = c := by injection e with e1 e2 e3; exact ⟨e1, e3⟩
    have a1 : At s2 o (.cells rw' 1 cs) := (I.old.trans I.sub).at_ ha
    have cc := cloneB I.sub (hu.bt I.old) (hl x (List.mem_of_getElem? hx))

    (repeat' (first | (apply Ab.K.ev; exact ev_) | (apply Ab.K.aops; first | (apply Xg.s; constructor) | apply Ab.S.guardG) | (apply Ab.K.aop; first | (apply Ab.O.callFE; (case ha => exact evs_); (case hc => exact cc)) | (apply Og.s; constructor)) | (apply Ab.K.gk; first | (apply Xg.s; constructor) | (apply Ab.gY; case hw => assumption) | (apply Ab.gNT; case hw => assumption) | (apply Ab.gNF; case hw => assumption) | ((first | apply Ab.gD | apply Ab.gDN); all_goals (intro _ _; (first | contradiction | (exfalso; omega) | skip)))) | (apply Ab.K.awp; first | (apply Xg.s; constructor)) | (apply Ab.K.at_; exact at_) | (apply Ab.K.acall; first | assumption | fail) | (apply Ab.Rg.mk; omega) | (apply Ab.Lt.mk; first | decide | (simp; done) | (simp; omega) | fail) | (apply Ab.Get.mk; first | rfl | (first | (rw [Int.toNat_natCast, Nat.mul_one]; exact hg) | (rw [Int.toNat_natCast]; exact hg))) | (apply Ab.Nm.mk; first | exact nrm_) | (apply Xg.s; constructor) | (apply Ab.asm; assumption) | rfl | infer_instance | decide))
    rintro v2 s3 ⟨b2, I2, hv2⟩
    clear cc
    obtain ⟨B, c2, rfl, _⟩ := hv2.isl
    obtain ⟨M2, hM2, T2⟩ := I2.fin M T
    have I3 := I.trans I2
    have hlt := G.lt T
    have hge := G.from_
    have aN2 := I2.kp.at_ aN
    have aN12 := I2.kp.at_ aN1
    have PN2 := PN.call I2
    have PN12 := PN1.call I2
    (repeat' (first | (apply Ab.K.ev; exact ev_) | (apply Ab.K.aops; first | (apply Xg.s; constructor) | apply Ab.S.guardG) | (apply Ab.K.aop; first | (apply Ab.O.build1 (M2); (case hx => exact ev_); (case hv => exact ⟨rfl, rfl⟩); (case hz => exact ⟨rfl, rfl⟩); (case hid => exact free_)) | (apply Og.s; constructor)) | (apply Ab.K.gk; first | (apply Xg.s; constructor) | (apply Ab.gY; case hw => assumption) | (apply Ab.gNT; case hw => assumption) | (apply Ab.gNF; case hw => assumption) | ((first | apply Ab.gD | apply Ab.gDN); all_goals (intro _ _; (first | contradiction | (exfalso; omega) | skip)))) | (apply Ab.K.awp; first | (apply Xg.s; constructor)) | (apply Ab.K.at_; exact at_) | (apply Ab.K.acall; first | assumption | fail) | (apply Ab.Rg.mk; omega) | (apply Ab.Lt.mk; first | decide | (simp; done) | (simp; omega) | fail) | (apply Ab.Get.mk; first | rfl | (first | (rw [Int.toNat_natCast, Nat.mul_one]; exact hg) | (rw [Int.toNat_natCast]; exact hg))) | (apply Ab.Nm.mk; first | exact nrm_) | (apply Xg.s; constructor) | (apply Ab.asm; assumption) | rfl | infer_instance | decide))
    have G4 := (G.kp I2.kp).set (id := M2) (b := .cells true 1 [.slice B x.length c2]) (fun q e => by have := hlt q e; omega)
    clear G

    (apply Ab.O.appendL (M2 + 1); (case hx => exact ev_); (case hL => exact Ab.Gr.lat (by assumption)); (case hy => exact ev_); (case hs => exact srcAll At.hit rfl); (case hk => rfl); (case hm => decide); (case hl => first | rfl | simp); (case hz => decide); (case hb => omega); (case hfree => exact free_))
    intro s4 g
    have Ib := I3.boxT (c := .cells true 1 [.slice B x.length c2]) T2 (Nat.le_refl _)
    have I4 := Ib.grew g (fun q e => ⟨(hP q e).z, ((hP q e).call I2).b⟩)
    have P4 := Prv.new Ib g
    have PN4 := (PN2.set (N := M2) (c := .cells true 1 [.slice B x.length c2])).grew g (fun q e => by have := hge q e; omega)
    have PN14 := (PN12.set (N := M2) (c := .cells true 1 [.slice B x.length c2])).grew g (fun q e => by have := hge q e; omega)
    have aN4 := Gr.off g (At.miss (by omega) aN2) (fun q e => by have := hge q e; omega) (by omega)
    have aN14 := Gr.off g (At.miss (by omega) aN12) (fun q e => by have := hge q e; omega) (by omega)
    have T4 := G4.topN g T2.new
    have C4 : Cs 1 (RQ b2) (xs ++ [.slice B x.length c2]) (q.take (i + 1)) := by rw [htk]; exact (C.mono fun c y => datQ.mono _ _ c y I2.old).snoc rfl ⟨_, rfl, hv2⟩
    have G5 : Gr s4 1 (N + 2) _ _ (i + 1) _ := Gr.app g (by rw [C4.len, List.length_take]; omega) (by omega)
    (repeat' (first | (apply Ab.K.ev; exact ev_) | (apply Ab.K.aops; first | (apply Xg.s; constructor) | apply Ab.S.guardG) | (apply Ab.K.aop; first | (apply Og.s; constructor)) | (apply Ab.K.gk; first | (apply Xg.s; constructor) | (apply Ab.gY; case hw => assumption) | (apply Ab.gNT; case hw => assumption) | (apply Ab.gNF; case hw => assumption) | ((first | apply Ab.gD | apply Ab.gDN); all_goals (intro _ _; (first | contradiction | (exfalso; omega) | skip)))) | (apply Ab.K.awp; first | (apply Xg.s; constructor)) | (apply Ab.K.at_; exact at_) | (apply Ab.K.acall; first | assumption | fail) | (apply Ab.Rg.mk; omega) | (apply Ab.Lt.mk; first | decide | (simp; done) | (simp; omega) | fail) | (apply Ab.Get.mk; first | rfl | (first | (rw [Int.toNat_natCast, Nat.mul_one]; exact hg) | (rw [Int.toNat_natCast]; exact hg))) | (apply Ab.Nm.mk; first | exact nrm_) | (apply Xg.s; constructor) | (apply Ab.asm; assumption) | rfl | infer_instance | decide))
    exact X.roundN (q.length - (i + 1)) (by omega) ⟨i + 1, M2 + 2, _, _, _, b2, by exact ev_, by exact ev_, by exact ev_, by exact ev_, by exact ev_, by exact ev_, aN4, aN14, I4, PN4, PN14, G5, C4, (fun o e => by obtain rfl := Option.some.inj e; exact P4), T4, by omega, by omega, rfl⟩
  · have hie : i = q.length := by omega
    subst hie
    rw [List.take_length] at C
    have hge := G.from_
    obtain ⟨b2, I2, hs2, hw, hpr⟩ := G.tell2 datQ I hP C
    obtain ⟨B, c2, rfl, _⟩ := hw.isl
    have PN2 := hpr N (fun e => by have := hge N e; omega) PN
    have PN12 := hpr (N + 1) (fun e => by have := hge (N + 1) e; omega) PN1
    clear PN PN1 I
    (repeat' (first | (apply Ab.K.ev; exact ev_) | (apply Ab.K.aops; first | (apply Xg.s; constructor) | apply Ab.S.guardG) | (apply Ab.K.aop; first | (apply Og.s; constructor)) | (apply Ab.K.gk; first | (apply Xg.s; constructor) | (apply Ab.gY; case hw => assumption) | (apply Ab.gNT; case hw => assumption) | (apply Ab.gNF; case hw => assumption) | ((first | apply Ab.gD | apply Ab.gDN); all_goals (intro _ _; (first | contradiction | (exfalso; omega) | skip)))) | (apply Ab.K.awp; first | (apply Xg.s; constructor)) | (apply Ab.K.at_; exact at_) | (apply Ab.K.acall; first | assumption | fail) | (apply Ab.Rg.mk; omega) | (apply Ab.Lt.mk; first | decide | (simp; done) | (simp; omega) | fail) | (apply Ab.Get.mk; first | rfl | (first | (rw [Int.toNat_natCast, Nat.mul_one]; exact hg) | (rw [Int.toNat_natCast]; exact hg))) | (apply Ab.Nm.mk; first | exact nrm_) | (apply Xg.s; constructor) | (apply Ab.asm; assumption) | rfl | infer_instance | decide))
    all_goals apply RetE.puR (b := b2)
    case I => (repeat' (first | assumption | (apply Ab.Inv.boxP; (case p => (repeat' (first | assumption | apply Ab.Prv.set))))))
    case he => exact evr_
    case hg => rfl
    · exact (L1.mk ⟨_, rfl, hw⟩).1
    · exact (L1.mk (y := ⟨⟨last, cur, prop, over⟩, ⟨base, sent, q, clock⟩, ⟨next, owes⟩⟩) ⟨_, rfl, hw⟩).2
end Go.Proofs.Ytoiplbackllgfaa

/- lines: a frame of the session, by the program. -/
namespace Go.Proofs.Ytoiplbackllgfaa
set_option linter.unusedVariables false
set_option linter.unusedSimpArgs false
set_option linter.unusedSectionVars false
open Go.RowKit Ab HP
attribute [local irreducible] AOps AOpsD AOpsP QStep NX AOp AWp put nargs AHeap.set At Free ACall ACallE thenQ blockQ roundQ RetQ RetE Src Gr
/-- What a frame of the session is to a line. -/
def lheard (l : Ln) (f : Fm) : Ln × Nw := if f.kind = 3 then (⟨l.h, ackS l.s f.ack, (getT l.t f.seq).1⟩, ⟨[], if (getT l.t f.seq).2 = true then [f.pay] else [], false, 0⟩) else (⟨l.h, ackS l.s f.ack, l.t⟩, nw0)
set_option maxHeartbeats 8000000 in
theorem heard36' {s b : AHeap} {last cur prop base sent clock next : Int} {over owes : Bool} {v : Value} {q : List (List Int)} {kind ses seq ack : Int} {w : Value} {p : List Int} (hb : Sub b s) (h : Qt b v q) (hp : Bt b w p) (hm : Sd.May ⟨base, sent, q, clock⟩) (ht : Tk.May ⟨next, owes⟩) (ha : Cnt ack) (hpl : p.length ≤ 1000000000) :
    ACallE Try.prog 36 [.agg (lna last cur prop over base sent v clock next owes).toArray, .agg #[.int .i64 kind, .int .i64 ses, .int .i64 seq, .int .i64 ack, w]] s (Pu s b (LW (lheard ⟨⟨last, cur, prop, over⟩, ⟨base, sent, q, clock⟩, ⟨next, owes⟩⟩ ⟨kind, ses, seq, ack, p⟩).1 (lheard ⟨⟨last, cur, prop, over⟩, ⟨base, sent, q, clock⟩, ⟨next, owes⟩⟩ ⟨kind, ses, seq, ack, p⟩).2)) := by
  refine ACallE.make Try.func36 rfl (by kernel_rfl) (by decide) rfl (fun N hN0 => ?_)
  have hT : Top N s := hN0
  obtain ⟨A, cap, rfl, hcap⟩ := h.isl
  obtain ⟨A2, cap2, rfl, hcap2⟩ := hp.isl
  obtain ⟨s1, hs1⟩ : ∃ s1 : AHeap, s1 = ((((s.set N (.cells true 1 (lna last cur prop over base sent (.slice A q.length cap) clock next owes))).set (N + 1) (.cells true 1 [.int .i64 kind, .int .i64 ses, .int .i64 seq, .int .i64 ack, .slice A2 p.length cap2])).set (N + 2) (.cells true 1 ln00)).set (N + 3) (.cells true 1 nw00)).set (N + 4) (.cells true 1 nw00) := ⟨_, rfl⟩
  have I0 := ((((Inv.refl hb).boxT (c := .cells true 1 (lna last cur prop over base sent (.slice A q.length cap) clock next owes)) hT (Nat.le_refl _)).boxT (c := .cells true 1 [.int .i64 kind, .int .i64 ses, .int .i64 seq, .int .i64 ack, .slice A2 p.length cap2]) hT.new (Nat.le_refl _)).boxT (c := .cells true 1 ln00) hT.new.new (Nat.le_refl _)).boxT (c := .cells true 1 nw00) hT.new.new.new (Nat.le_refl _)
  have I1 : Inv s b s1 b := by rw [hs1]; exact I0.boxT hT.new.new.new.new (Nat.le_refl _)
  have z : ∀ i, N ≤ i → i < N + 5 → Prv s s1 b i := fun i h1 h2 => ⟨hT.none h1, hb.none (hT.none h1), by
    rw [hs1]
    rcases (show i = N ∨ i = N + 1 ∨ i = N + 2 ∨ i = N + 3 ∨ i = N + 4 by omega) with rfl | rfl | rfl | rfl | rfl
    all_goals simp [AHeap.set]⟩
  have PN := z N (by omega) (by omega)
  have PN2 := z (N + 2) (by omega) (by omega)
  have PN3 := z (N + 3) (by omega) (by omega)
  have PN4 := z (N + 4) (by omega) (by omega)
  have T1 : Top (N + 5) s1 := by rw [hs1]; exact hT.new.new.new.new.new
  have aN : At s1 N (.cells true 1 (lna last cur prop over base sent (.slice A q.length cap) clock next owes)) := by rw [hs1]; exact at_
  have aN1 : At s1 (N + 1) (.cells true 1 [.int .i64 kind, .int .i64 ses, .int .i64 seq, .int .i64 ack, .slice A2 p.length cap2]) := by rw [hs1]; exact at_
  have aN2 : At s1 (N + 2) (.cells true 1 ln00) := by rw [hs1]; exact at_
  have aN3 : At s1 (N + 3) (.cells true 1 nw00) := by rw [hs1]; exact at_
  have aN4 : At s1 (N + 4) (.cells true 1 nw00) := by rw [hs1]; exact At.hit
  by_cases hk : kind = 3
  case neg =>
    rw [show lheard ⟨⟨last, cur, prop, over⟩, ⟨base, sent, q, clock⟩, ⟨next, owes⟩⟩ ⟨kind, ses, seq, ack, p⟩ = (⟨⟨last, cur, prop, over⟩, ackS ⟨base, sent, q, clock⟩ ack, ⟨next, owes⟩⟩, nw0) from if_neg hk]
    have ca := ack70' I1.sub (h) hm ha
    (repeat' (first | (apply Ab.K.ev; exact ev_) | (apply Ab.K.aops; first | (apply Xg.s; constructor) | apply Ab.S.guardG) | (apply Ab.K.aop; first | (first | (apply Ab.O.boxA N; (case hx => exact ev_); (case hid => exact frees_)) | (apply Ab.O.boxA (N + 1); (case hx => exact ev_); (case hid => exact frees_)) | (apply Ab.O.allocA (N + 2); (case hid => exact frees_); (case hp => rfl)) | (apply Ab.O.allocA (N + 3); (case hid => exact frees_); (case hp => rfl)) | (apply Ab.O.allocA (N + 4); (case hid => exact frees_); (case hp => rfl)) | (apply Ab.O.allocA (N + 5); (case hid => exact frees_); (case hp => rfl)) | (apply Ab.O.callFE; (case ha => exact evs_); (case hc => rw [← hs1]; exact ca))) | (apply Og.s; constructor)) | (apply Ab.K.gk; first | (apply Xg.s; constructor) | (apply Ab.gY; case hw => assumption) | (apply Ab.gNT; case hw => assumption) | (apply Ab.gNF; case hw => assumption) | ((first | apply Ab.gD | apply Ab.gDN); all_goals (intro _ _; (first | contradiction | (exfalso; omega) | skip)))) | (apply Ab.K.aopsD; first | (apply Ab.D.q0t; (case hw => rfl); (case hot => rfl)) | (apply Ab.D.w1t; (case hw => rfl); (case hot => rfl)) | (apply Ab.D.q0; (case hw => rfl); intro _ _) | (apply Ab.D.w1n; (case hw => rfl); intro _ _) | (apply Ab.D.w2n; (case hw => rfl); intro _ _) | (apply Xg.s; constructor) | fail | apply Ab.D.guardG) | (apply Ab.K.aopsP; first | apply Ab.Pd.nil | (apply Ab.Pd.q; (case hi => rfl)) | (apply Ab.Pd.z; (case hi => rfl)) | (apply Ab.Pd.zU; (case hi => rfl); (case hd => rfl); (case hb => (exact ev_; done))) | (apply Ab.Pd.zG; (case hi => rfl); (case hd => rfl)) | (apply Ab.Pd.st; (case hi => rfl)) | (apply Ab.Pd.qU; (case hi => rfl); (case hd => rfl); (case hb => (exact ev_; done))) | (apply Ab.Pd.qG; (case hi => rfl); (case hd => rfl)) | (apply Ab.Pd.stU; (case hi => rfl); (case hd => rfl); (case hb => (exact ev_; done))) | (apply Ab.Pd.stG; (case hi => rfl); (case hd => rfl))) | (apply Ab.Pd.qs; intro _ _) | (apply Ab.Pd.nxE; (case hE => rfl)) | (apply Ab.Pd.nxR; (case hr => (repeat' (first | exact Ab.Sub.del _ _ | assumption | (apply Ab.Sub.setI; (case hn => simp)) | (apply Ab.Sub.setF; (case hn => exact free_)) | exact (Ab.Sub.del _ _).trans (by assumption))))) | exact ⟨rfl, rfl⟩ | (apply Ab.K.awp; first | (apply AWp.schedS (id := 8) [(0, 1), (1, 1), (2, 0), (3, 0)] [3] [[], [], [0], [0, 1, 2]] [N + 2, N + 3] (by kernel_rfl) (by kernel_rfl) (by kernel_rfl) rfl) | (apply Xg.s; constructor)) | (apply Ab.K.at_; exact at_) | (apply Ab.K.acall; first | assumption | fail) | (apply Ab.Rg.mk; omega) | (apply Ab.Lt.mk; first | decide | (simp; done) | (simp; omega) | fail) | (apply Ab.Get.mk; first | rfl | fail) | (apply Ab.Nm.mk; first | exact nrm_) | (apply Xg.s; constructor) | (apply Ab.asm; assumption) | rfl | infer_instance | decide))
    rintro r s7 ⟨b7, I7, c7, rfl, v7, rfl, hv7⟩
    clear ca
    have I8 := (I1).trans I7
    have P8 := PN.call I7
    have P82 := PN2.call I7
    have P83 := PN3.call I7
    have P84 := PN4.call I7
    have a8 := I7.kp.at_ aN
    have a81 := I7.kp.at_ aN1
    have a82 := I7.kp.at_ aN2
    have a83 := I7.kp.at_ aN3
    have a84 := I7.kp.at_ aN4
    obtain ⟨B7, c7, rfl, _⟩ := hv7.isl
    (repeat' (first | (apply Ab.K.ev; exact ev_) | (apply Ab.K.aops; first | (apply Xg.s; constructor) | apply Ab.S.guardG) | (apply Ab.K.aop; first | (apply Og.s; constructor)) | (apply Ab.K.gk; first | (apply Xg.s; constructor) | (apply Ab.gY; case hw => assumption) | (apply Ab.gNT; case hw => assumption) | (apply Ab.gNF; case hw => assumption) | ((first | apply Ab.gD | apply Ab.gDN); all_goals (intro _ _; (first | contradiction | (exfalso; omega) | skip)))) | (apply Ab.K.aopsD; first | (apply Ab.D.q0t; (case hw => rfl); (case hot => rfl)) | (apply Ab.D.w1t; (case hw => rfl); (case hot => rfl)) | (apply Ab.D.q0; (case hw => rfl); intro _ _) | (apply Ab.D.w1n; (case hw => rfl); intro _ _) | (apply Ab.D.w2n; (case hw => rfl); intro _ _) | (apply Xg.s; constructor) | fail | apply Ab.D.guardG) | (apply Ab.K.aopsP; first | apply Ab.Pd.nil | (apply Ab.Pd.q; (case hi => rfl)) | (apply Ab.Pd.z; (case hi => rfl)) | (apply Ab.Pd.zU; (case hi => rfl); (case hd => rfl); (case hb => (exact ev_; done))) | (apply Ab.Pd.zG; (case hi => rfl); (case hd => rfl)) | (apply Ab.Pd.st; (case hi => rfl)) | (apply Ab.Pd.qU; (case hi => rfl); (case hd => rfl); (case hb => (exact ev_; done))) | (apply Ab.Pd.qG; (case hi => rfl); (case hd => rfl)) | (apply Ab.Pd.stU; (case hi => rfl); (case hd => rfl); (case hb => (exact ev_; done))) | (apply Ab.Pd.stG; (case hi => rfl); (case hd => rfl))) | (apply Ab.Pd.qs; intro _ _) | (apply Ab.Pd.nxE; (case hE => rfl)) | (apply Ab.Pd.nxR; (case hr => (repeat' (first | exact Ab.Sub.del _ _ | assumption | (apply Ab.Sub.setI; (case hn => simp)) | (apply Ab.Sub.setF; (case hn => exact free_)) | exact (Ab.Sub.del _ _).trans (by assumption))))) | exact ⟨rfl, rfl⟩ | (apply Ab.K.awp; first | (apply AWp.schedS (id := 8) [(0, 1), (1, 1), (2, 0), (3, 0)] [3] [[], [], [0], [0, 1, 2]] [N + 2, N + 3] (by kernel_rfl) (by kernel_rfl) (by kernel_rfl) rfl) | (apply Xg.s; constructor)) | (apply Ab.K.at_; exact at_) | (apply Ab.K.acall; first | assumption | fail) | (apply Ab.Rg.mk; omega) | (apply Ab.Lt.mk; first | decide | (simp; done) | (simp; omega) | fail) | (apply Ab.Get.mk; first | rfl | fail) | (apply Ab.Nm.mk; first | exact nrm_) | (apply Xg.s; constructor) | (apply Ab.asm; assumption) | rfl | infer_instance | decide))
    all_goals apply RetE.puR (b := b7)
    case I => (repeat' (first | assumption | (apply Ab.Inv.boxP; (case p => (repeat' (first | assumption | apply Ab.Prv.set))))))
    case he => exact evr_
    case hg => rfl
    · exact (LW.mk (y := ⟨⟨last, cur, prop, over⟩, ackS ⟨base, sent, q, clock⟩ ack, ⟨next, owes⟩⟩) (n := nw0) ⟨_, rfl, hv7⟩ ⟨_, _, rfl, .nil, .nil⟩).1
    · exact (LW.mk (y := ⟨⟨last, cur, prop, over⟩, ackS ⟨base, sent, q, clock⟩ ack, ⟨next, owes⟩⟩) (n := nw0) ⟨_, rfl, hv7⟩ ⟨_, _, rfl, .nil, .nil⟩).2
  have cg := fun s' : AHeap => takeGet (s := s') (seq := seq) ht
  obtain ⟨⟨next', owes'⟩, hg⟩ : ∃ t', t' = (getT ⟨next, owes⟩ seq).1 := ⟨_, rfl⟩
  rw [← hg] at cg
  have hsp : ∀ ok, (getT ⟨next, owes⟩ seq).2 = ok → lheard ⟨⟨last, cur, prop, over⟩, ⟨base, sent, q, clock⟩, ⟨next, owes⟩⟩ ⟨kind, ses, seq, ack, p⟩ = (⟨⟨last, cur, prop, over⟩, ackS ⟨base, sent, q, clock⟩ ack, ⟨next', owes'⟩⟩, ⟨[], if ok = true then [p] else [], false, 0⟩) := fun ok hok => by
    unfold lheard; rw [if_pos hk, ← hg, hok]
  obtain ⟨s2, hs2⟩ : ∃ s2 : AHeap, s2 = ((s1.set (N + 5) (.cells true 1 [.int .i64 0, .bool false])).set (N + 5) (.cells true 1 [.int .i64 next', .bool owes'])).set N (.cells true 1 (lna last cur prop over base sent (.slice A q.length cap) clock next' owes')) := ⟨_, rfl⟩
  have Ib := (I1.boxT (c := .cells true 1 [.int .i64 0, .bool false]) T1 (Nat.le_refl _)).boxP (c := .cells true 1 [.int .i64 next', .bool owes']) (Prv.mk' I1 (T1.none (Nat.le_refl _)))
  have I2 : Inv s b s2 b := by rw [hs2]; exact Ib.boxP PN.set.set
  have Q : Prv s s2 b N := by rw [hs2]; (repeat' (first | assumption | apply Ab.Prv.set))
  have Q2 : Prv s s2 b (N + 2) := by rw [hs2]; (repeat' (first | assumption | apply Ab.Prv.set))
  have Q3 : Prv s s2 b (N + 3) := by rw [hs2]; (repeat' (first | assumption | apply Ab.Prv.set))
  have Q4 : Prv s s2 b (N + 4) := by rw [hs2]; (repeat' (first | assumption | apply Ab.Prv.set))
  have T2 : Top (N + 6) s2 := by rw [hs2]; exact (T1.new.set (by omega)).set (by omega)
  have d : At s2 N (.cells true 1 (lna last cur prop over base sent (.slice A q.length cap) clock next' owes')) := by rw [hs2]; exact At.hit
  have d1 : At s2 (N + 1) (.cells true 1 [.int .i64 kind, .int .i64 ses, .int .i64 seq, .int .i64 ack, .slice A2 p.length cap2]) := by rw [hs2]; exact at_
  have d2 : At s2 (N + 2) (.cells true 1 ln00) := by rw [hs2]; exact at_
  have d3 : At s2 (N + 3) (.cells true 1 nw00) := by rw [hs2]; exact at_
  have d4 : At s2 (N + 4) (.cells true 1 nw00) := by rw [hs2]; exact at_
  cases hok : (getT ⟨next, owes⟩ seq).2 with
  | false =>
    rw [hsp false hok]
    rw [hok] at cg
    have ca := ack70' I2.sub (h) hm ha
    (repeat' (first | (apply Ab.K.ev; exact ev_) | (apply Ab.K.aops; first | (apply Xg.s; constructor) | apply Ab.S.guardG) | (apply Ab.K.aop; first | (first | (apply Ab.O.boxA N; (case hx => exact ev_); (case hid => exact frees_)) | (apply Ab.O.boxA (N + 1); (case hx => exact ev_); (case hid => exact frees_)) | (apply Ab.O.allocA (N + 2); (case hid => exact frees_); (case hp => rfl)) | (apply Ab.O.allocA (N + 3); (case hid => exact frees_); (case hp => rfl)) | (apply Ab.O.allocA (N + 4); (case hid => exact frees_); (case hp => rfl)) | (apply Ab.O.allocA (N + 5); (case hid => exact frees_); (case hp => rfl)) | (apply Ab.O.callFE; (case ha => exact evs_); (case hc => rw [← hs1, ← hs2]; exact ca))) | (apply Og.s; constructor)) | (apply Ab.K.gk; first | (apply Xg.s; constructor) | (apply Ab.gY; case hw => assumption) | (apply Ab.gNT; case hw => assumption) | (apply Ab.gNF; case hw => assumption) | ((first | apply Ab.gD | apply Ab.gDN); all_goals (intro _ _; (first | contradiction | (exfalso; omega) | skip)))) | (apply Ab.K.aopsD; first | (apply Ab.D.q0t; (case hw => rfl); (case hot => rfl)) | (apply Ab.D.w1t; (case hw => rfl); (case hot => rfl)) | (apply Ab.D.q0; (case hw => rfl); intro _ _) | (apply Ab.D.w1n; (case hw => rfl); intro _ _) | (apply Ab.D.w2n; (case hw => rfl); intro _ _) | (apply Xg.s; constructor) | fail | apply Ab.D.guardG) | (apply Ab.K.aopsP; first | apply Ab.Pd.nil | (apply Ab.Pd.q; (case hi => rfl)) | (apply Ab.Pd.z; (case hi => rfl)) | (apply Ab.Pd.zU; (case hi => rfl); (case hd => rfl); (case hb => (exact ev_; done))) | (apply Ab.Pd.zG; (case hi => rfl); (case hd => rfl)) | (apply Ab.Pd.st; (case hi => rfl)) | (apply Ab.Pd.qU; (case hi => rfl); (case hd => rfl); (case hb => (exact ev_; done))) | (apply Ab.Pd.qG; (case hi => rfl); (case hd => rfl)) | (apply Ab.Pd.stU; (case hi => rfl); (case hd => rfl); (case hb => (exact ev_; done))) | (apply Ab.Pd.stG; (case hi => rfl); (case hd => rfl))) | (apply Ab.Pd.qs; intro _ _) | (apply Ab.Pd.nxE; (case hE => rfl)) | (apply Ab.Pd.nxR; (case hr => (repeat' (first | exact Ab.Sub.del _ _ | assumption | (apply Ab.Sub.setI; (case hn => simp)) | (apply Ab.Sub.setF; (case hn => exact free_)) | exact (Ab.Sub.del _ _).trans (by assumption))))) | exact ⟨rfl, rfl⟩ | (apply Ab.K.awp; first | (apply AWp.schedS (id := 8) [(0, 1), (1, 1), (2, 0), (3, 0)] [3] [[], [], [0], [0, 1, 2]] [N + 2, N + 3] (by kernel_rfl) (by kernel_rfl) (by kernel_rfl) rfl) | (apply Xg.s; constructor)) | (apply Ab.K.at_; exact at_) | (apply Ab.K.acall; first | assumption | exact cg _) | (apply Ab.Rg.mk; omega) | (apply Ab.Lt.mk; first | decide | (simp; done) | (simp; omega) | fail) | (apply Ab.Get.mk; first | rfl | fail) | (apply Ab.Nm.mk; first | exact nrm_) | (apply Xg.s; constructor) | (apply Ab.asm; assumption) | rfl | infer_instance | decide))
    rintro r s7 ⟨b7, I7, c7, rfl, v7, rfl, hv7⟩
    clear ca
    have I8 := (I2).trans I7
    have P8 := Q.call I7
    have P82 := Q2.call I7
    have P83 := Q3.call I7
    have P84 := Q4.call I7
    have a8 := I7.kp.at_ d
    have a81 := I7.kp.at_ d1
    have a82 := I7.kp.at_ d2
    have a83 := I7.kp.at_ d3
    have a84 := I7.kp.at_ d4
    obtain ⟨B7, c7, rfl, _⟩ := hv7.isl
    (repeat' (first | (apply Ab.K.ev; exact ev_) | (apply Ab.K.aops; first | (apply Xg.s; constructor) | apply Ab.S.guardG) | (apply Ab.K.aop; first | (apply Og.s; constructor)) | (apply Ab.K.gk; first | (apply Xg.s; constructor) | (apply Ab.gY; case hw => assumption) | (apply Ab.gNT; case hw => assumption) | (apply Ab.gNF; case hw => assumption) | ((first | apply Ab.gD | apply Ab.gDN); all_goals (intro _ _; (first | contradiction | (exfalso; omega) | skip)))) | (apply Ab.K.aopsD; first | (apply Ab.D.q0t; (case hw => rfl); (case hot => rfl)) | (apply Ab.D.w1t; (case hw => rfl); (case hot => rfl)) | (apply Ab.D.q0; (case hw => rfl); intro _ _) | (apply Ab.D.w1n; (case hw => rfl); intro _ _) | (apply Ab.D.w2n; (case hw => rfl); intro _ _) | (apply Xg.s; constructor) | fail | apply Ab.D.guardG) | (apply Ab.K.aopsP; first | apply Ab.Pd.nil | (apply Ab.Pd.q; (case hi => rfl)) | (apply Ab.Pd.z; (case hi => rfl)) | (apply Ab.Pd.zU; (case hi => rfl); (case hd => rfl); (case hb => (exact ev_; done))) | (apply Ab.Pd.zG; (case hi => rfl); (case hd => rfl)) | (apply Ab.Pd.st; (case hi => rfl)) | (apply Ab.Pd.qU; (case hi => rfl); (case hd => rfl); (case hb => (exact ev_; done))) | (apply Ab.Pd.qG; (case hi => rfl); (case hd => rfl)) | (apply Ab.Pd.stU; (case hi => rfl); (case hd => rfl); (case hb => (exact ev_; done))) | (apply Ab.Pd.stG; (case hi => rfl); (case hd => rfl))) | (apply Ab.Pd.qs; intro _ _) | (apply Ab.Pd.nxE; (case hE => rfl)) | (apply Ab.Pd.nxR; (case hr => (repeat' (first | exact Ab.Sub.del _ _ | assumption | (apply Ab.Sub.setI; (case hn => simp)) | (apply Ab.Sub.setF; (case hn => exact free_)) | exact (Ab.Sub.del _ _).trans (by assumption))))) | exact ⟨rfl, rfl⟩ | (apply Ab.K.awp; first | (apply AWp.schedS (id := 8) [(0, 1), (1, 1), (2, 0), (3, 0)] [3] [[], [], [0], [0, 1, 2]] [N + 2, N + 3] (by kernel_rfl) (by kernel_rfl) (by kernel_rfl) rfl) | (apply Xg.s; constructor)) | (apply Ab.K.at_; exact at_) | (apply Ab.K.acall; first | assumption | exact cg _) | (apply Ab.Rg.mk; omega) | (apply Ab.Lt.mk; first | decide | (simp; done) | (simp; omega) | fail) | (apply Ab.Get.mk; first | rfl | fail) | (apply Ab.Nm.mk; first | exact nrm_) | (apply Xg.s; constructor) | (apply Ab.asm; assumption) | rfl | infer_instance | decide))
    all_goals apply RetE.puR (b := b7)
    case I => (repeat' (first | assumption | (apply Ab.Inv.boxP; (case p => (repeat' (first | assumption | apply Ab.Prv.set))))))
    case he => exact evr_
    case hg => rfl
    · exact (LW.mk (y := ⟨⟨last, cur, prop, over⟩, ackS ⟨base, sent, q, clock⟩ ack, ⟨next', owes'⟩⟩) (n := ⟨[], [], false, 0⟩) ⟨_, rfl, hv7⟩ ⟨_, _, rfl, .nil, .nil⟩).1
    · exact (LW.mk (y := ⟨⟨last, cur, prop, over⟩, ackS ⟨base, sent, q, clock⟩ ack, ⟨next', owes'⟩⟩) (n := ⟨[], [], false, 0⟩) ⟨_, rfl, hv7⟩ ⟨_, _, rfl, .nil, .nil⟩).2
  | true =>
    rw [hsp true hok]
    rw [hok] at cg
    have c67 := cloneB I2.sub hp hpl
    (repeat' (first | (apply Ab.K.ev; exact ev_) | (apply Ab.K.aops; first | (apply Xg.s; constructor) | apply Ab.S.guardG) | (apply Ab.K.aop; first | (first | (apply Ab.O.boxA N; (case hx => exact ev_); (case hid => exact frees_)) | (apply Ab.O.boxA (N + 1); (case hx => exact ev_); (case hid => exact frees_)) | (apply Ab.O.allocA (N + 2); (case hid => exact frees_); (case hp => rfl)) | (apply Ab.O.allocA (N + 3); (case hid => exact frees_); (case hp => rfl)) | (apply Ab.O.allocA (N + 4); (case hid => exact frees_); (case hp => rfl)) | (apply Ab.O.allocA (N + 5); (case hid => exact frees_); (case hp => rfl)) | (apply Ab.O.callFE; (case ha => exact evs_); (case hc => rw [← hs1, ← hs2]; exact c67))) | (apply Og.s; constructor)) | (apply Ab.K.gk; first | (apply Xg.s; constructor) | (apply Ab.gY; case hw => assumption) | (apply Ab.gNT; case hw => assumption) | (apply Ab.gNF; case hw => assumption) | ((first | apply Ab.gD | apply Ab.gDN); all_goals (intro _ _; (first | contradiction | (exfalso; omega) | skip)))) | (apply Ab.K.aopsD; first | (apply Ab.D.q0t; (case hw => rfl); (case hot => rfl)) | (apply Ab.D.w1t; (case hw => rfl); (case hot => rfl)) | (apply Ab.D.q0; (case hw => rfl); intro _ _) | (apply Ab.D.w1n; (case hw => rfl); intro _ _) | (apply Ab.D.w2n; (case hw => rfl); intro _ _) | (apply Xg.s; constructor) | fail | apply Ab.D.guardG) | (apply Ab.K.aopsP; first | apply Ab.Pd.nil | (apply Ab.Pd.q; (case hi => rfl)) | (apply Ab.Pd.z; (case hi => rfl)) | (apply Ab.Pd.zU; (case hi => rfl); (case hd => rfl); (case hb => (exact ev_; done))) | (apply Ab.Pd.zG; (case hi => rfl); (case hd => rfl)) | (apply Ab.Pd.st; (case hi => rfl)) | (apply Ab.Pd.qU; (case hi => rfl); (case hd => rfl); (case hb => (exact ev_; done))) | (apply Ab.Pd.qG; (case hi => rfl); (case hd => rfl)) | (apply Ab.Pd.stU; (case hi => rfl); (case hd => rfl); (case hb => (exact ev_; done))) | (apply Ab.Pd.stG; (case hi => rfl); (case hd => rfl))) | (apply Ab.Pd.qs; intro _ _) | (apply Ab.Pd.nxE; (case hE => rfl)) | (apply Ab.Pd.nxR; (case hr => (repeat' (first | exact Ab.Sub.del _ _ | assumption | (apply Ab.Sub.setI; (case hn => simp)) | (apply Ab.Sub.setF; (case hn => exact free_)) | exact (Ab.Sub.del _ _).trans (by assumption))))) | exact ⟨rfl, rfl⟩ | (apply Ab.K.awp; first | (apply AWp.schedS (id := 8) [(0, 1), (1, 1), (2, 0), (3, 0)] [3] [[], [], [0], [0, 1, 2]] [N + 2, N + 3] (by kernel_rfl) (by kernel_rfl) (by kernel_rfl) rfl) | (apply Xg.s; constructor)) | (apply Ab.K.at_; exact at_) | (apply Ab.K.acall; first | assumption | exact cg _) | (apply Ab.Rg.mk; omega) | (apply Ab.Lt.mk; first | decide | (simp; done) | (simp; omega) | fail) | (apply Ab.Get.mk; first | rfl | fail) | (apply Ab.Nm.mk; first | exact nrm_) | (apply Xg.s; constructor) | (apply Ab.asm; assumption) | rfl | infer_instance | decide))
    rintro u s4 ⟨b4, I4, hu⟩
    clear c67
    obtain ⟨B4, c4, rfl, _⟩ := hu.isl
    obtain ⟨M4, hM4, T4⟩ := I4.fin _ T2
    have I5 := I2.trans I4
    obtain ⟨s5, hs5⟩ : ∃ s5 : AHeap, s5 = (s4.set M4 (.cells true 1 [.slice B4 p.length c4])).set (N + 4) (.cells true 1 [.slice none 0 0, .slice (some ⟨M4, 0, none⟩) 1 1, .bool false, .int .i64 0]) := ⟨_, rfl⟩
    have Ia := I5.add (c := .cells true 1 [.slice B4 p.length c4]) (T4.none (Nat.le_refl _)) (fun x hx => by rw [List.mem_singleton.1 hx]; exact nm1.imp (fun _ h => .inl h) hu.nm)
    have hs45 : Sub b4 (b4.set M4 (.cells true 1 [.slice B4 p.length c4])) := Sub.new (I5.sub.none (T4.none (Nat.le_refl _)))
    have g : ∀ i, i < N + 5 → Prv s s2 b i → Prv s s5 (b4.set M4 (.cells true 1 [.slice B4 p.length c4])) i := fun i hi p => by rw [hs5]; exact ((p.call I4).set.tell (by omega)).set
    have I6 : Inv s b s5 (b4.set M4 (.cells true 1 [.slice B4 p.length c4])) := by rw [hs5]; exact Ia.boxP ((Q4.call I4).set.tell (by omega))
    have W := g N (by omega) Q
    have W2 := g (N + 2) (by omega) Q2
    have W3 := g (N + 3) (by omega) Q3
    have W4 := g (N + 4) (by omega) Q4
    have e := I4.kp.at_ d
    have e1 := I4.kp.at_ d1
    have e2 := I4.kp.at_ d2
    have e3 := I4.kp.at_ d3
    have e4 := I4.kp.at_ d4
    have f : At s5 N (.cells true 1 (lna last cur prop over base sent (.slice A q.length cap) clock next' owes')) := by rw [hs5]; exact at_
    have f1 : At s5 (N + 1) (.cells true 1 [.int .i64 kind, .int .i64 ses, .int .i64 seq, .int .i64 ack, .slice A2 p.length cap2]) := by rw [hs5]; exact at_
    have f2 : At s5 (N + 2) (.cells true 1 ln00) := by rw [hs5]; exact at_
    have f3 : At s5 (N + 3) (.cells true 1 nw00) := by rw [hs5]; exact at_
    have f4 : At s5 (N + 4) (.cells true 1 [.slice none 0 0, .slice (some ⟨M4, 0, none⟩) 1 1, .bool false, .int .i64 0]) := by rw [hs5]; exact At.hit
    have hcm : Qt (b4.set M4 (.cells true 1 [.slice B4 p.length c4])) (.slice (some ⟨M4, 0, none⟩) 1 1) [p] := .blk At.hit rfl (Nat.le_refl _) (Cs.snoc (l := []) Cs.nil rfl ⟨_, rfl, hu.bt hs45⟩)
    have ca := ack70' I6.sub (h.sub datQ ((I2.trans I4).old.trans hs45)) hm ha
    (repeat' (first | (apply Ab.K.ev; exact ev_) | (apply Ab.K.aops; first | (apply Xg.s; constructor) | apply Ab.S.guardG) | (apply Ab.K.aop; first | (first | (apply Ab.O.build1 (M4); (case hx => exact ev_); (case hv => exact ⟨rfl, rfl⟩); (case hz => exact ⟨rfl, rfl⟩); (case hid => exact free_)) | (apply Ab.O.callFE; (case ha => exact evs_); (case hc => rw [← hs5]; exact ca))) | (apply Og.s; constructor)) | (apply Ab.K.gk; first | (apply Xg.s; constructor) | (apply Ab.gY; case hw => assumption) | (apply Ab.gNT; case hw => assumption) | (apply Ab.gNF; case hw => assumption) | ((first | apply Ab.gD | apply Ab.gDN); all_goals (intro _ _; (first | contradiction | (exfalso; omega) | skip)))) | (apply Ab.K.aopsD; first | (apply Ab.D.q0t; (case hw => rfl); (case hot => rfl)) | (apply Ab.D.w1t; (case hw => rfl); (case hot => rfl)) | (apply Ab.D.q0; (case hw => rfl); intro _ _) | (apply Ab.D.w1n; (case hw => rfl); intro _ _) | (apply Ab.D.w2n; (case hw => rfl); intro _ _) | (apply Xg.s; constructor) | fail | apply Ab.D.guardG) | (apply Ab.K.aopsP; first | apply Ab.Pd.nil | (apply Ab.Pd.q; (case hi => rfl)) | (apply Ab.Pd.z; (case hi => rfl)) | (apply Ab.Pd.zU; (case hi => rfl); (case hd => rfl); (case hb => (exact ev_; done))) | (apply Ab.Pd.zG; (case hi => rfl); (case hd => rfl)) | (apply Ab.Pd.st; (case hi => rfl)) | (apply Ab.Pd.qU; (case hi => rfl); (case hd => rfl); (case hb => (exact ev_; done))) | (apply Ab.Pd.qG; (case hi => rfl); (case hd => rfl)) | (apply Ab.Pd.stU; (case hi => rfl); (case hd => rfl); (case hb => (exact ev_; done))) | (apply Ab.Pd.stG; (case hi => rfl); (case hd => rfl))) | (apply Ab.Pd.qs; intro _ _) | (apply Ab.Pd.nxE; (case hE => rfl)) | (apply Ab.Pd.nxR; (case hr => (repeat' (first | exact Ab.Sub.del _ _ | assumption | (apply Ab.Sub.setI; (case hn => simp)) | (apply Ab.Sub.setF; (case hn => exact free_)) | exact (Ab.Sub.del _ _).trans (by assumption))))) | exact ⟨rfl, rfl⟩ | (apply Ab.K.awp; first | (apply AWp.schedS (id := 8) [(0, 1), (1, 1), (2, 0), (3, 0)] [3] [[], [], [0], [0, 1, 2]] [N + 2, N + 3] (by kernel_rfl) (by kernel_rfl) (by kernel_rfl) rfl) | (apply Xg.s; constructor)) | (apply Ab.K.at_; exact at_) | (apply Ab.K.acall; first | assumption | exact cg _) | (apply Ab.Rg.mk; omega) | (apply Ab.Lt.mk; first | decide | (simp; done) | (simp; omega) | fail) | (apply Ab.Get.mk; first | rfl | fail) | (apply Ab.Nm.mk; first | exact nrm_) | (apply Xg.s; constructor) | (apply Ab.asm; assumption) | rfl | infer_instance | decide))
    rintro r s7 ⟨b7, I7, c7, rfl, v7, rfl, hv7⟩
    clear ca
    have I8 := (I6).trans I7
    have P8 := W.call I7
    have P82 := W2.call I7
    have P83 := W3.call I7
    have P84 := W4.call I7
    have a8 := I7.kp.at_ f
    have a81 := I7.kp.at_ f1
    have a82 := I7.kp.at_ f2
    have a83 := I7.kp.at_ f3
    have a84 := I7.kp.at_ f4
    obtain ⟨B7, c7, rfl, _⟩ := hv7.isl
    (repeat' (first | (apply Ab.K.ev; exact ev_) | (apply Ab.K.aops; first | (apply Xg.s; constructor) | apply Ab.S.guardG) | (apply Ab.K.aop; first | (apply Og.s; constructor)) | (apply Ab.K.gk; first | (apply Xg.s; constructor) | (apply Ab.gY; case hw => assumption) | (apply Ab.gNT; case hw => assumption) | (apply Ab.gNF; case hw => assumption) | ((first | apply Ab.gD | apply Ab.gDN); all_goals (intro _ _; (first | contradiction | (exfalso; omega) | skip)))) | (apply Ab.K.aopsD; first | (apply Ab.D.q0t; (case hw => rfl); (case hot => rfl)) | (apply Ab.D.w1t; (case hw => rfl); (case hot => rfl)) | (apply Ab.D.q0; (case hw => rfl); intro _ _) | (apply Ab.D.w1n; (case hw => rfl); intro _ _) | (apply Ab.D.w2n; (case hw => rfl); intro _ _) | (apply Xg.s; constructor) | fail | apply Ab.D.guardG) | (apply Ab.K.aopsP; first | apply Ab.Pd.nil | (apply Ab.Pd.q; (case hi => rfl)) | (apply Ab.Pd.z; (case hi => rfl)) | (apply Ab.Pd.zU; (case hi => rfl); (case hd => rfl); (case hb => (exact ev_; done))) | (apply Ab.Pd.zG; (case hi => rfl); (case hd => rfl)) | (apply Ab.Pd.st; (case hi => rfl)) | (apply Ab.Pd.qU; (case hi => rfl); (case hd => rfl); (case hb => (exact ev_; done))) | (apply Ab.Pd.qG; (case hi => rfl); (case hd => rfl)) | (apply Ab.Pd.stU; (case hi => rfl); (case hd => rfl); (case hb => (exact ev_; done))) | (apply Ab.Pd.stG; (case hi => rfl); (case hd => rfl))) | (apply Ab.Pd.qs; intro _ _) | (apply Ab.Pd.nxE; (case hE => rfl)) | (apply Ab.Pd.nxR; (case hr => (repeat' (first | exact Ab.Sub.del _ _ | assumption | (apply Ab.Sub.setI; (case hn => simp)) | (apply Ab.Sub.setF; (case hn => exact free_)) | exact (Ab.Sub.del _ _).trans (by assumption))))) | exact ⟨rfl, rfl⟩ | (apply Ab.K.awp; first | (apply AWp.schedS (id := 8) [(0, 1), (1, 1), (2, 0), (3, 0)] [3] [[], [], [0], [0, 1, 2]] [N + 2, N + 3] (by kernel_rfl) (by kernel_rfl) (by kernel_rfl) rfl) | (apply Xg.s; constructor)) | (apply Ab.K.at_; exact at_) | (apply Ab.K.acall; first | assumption | exact cg _) | (apply Ab.Rg.mk; omega) | (apply Ab.Lt.mk; first | decide | (simp; done) | (simp; omega) | fail) | (apply Ab.Get.mk; first | rfl | fail) | (apply Ab.Nm.mk; first | exact nrm_) | (apply Xg.s; constructor) | (apply Ab.asm; assumption) | rfl | infer_instance | decide))
    all_goals apply RetE.puR (b := b7)
    case I => (repeat' (first | assumption | (apply Ab.Inv.boxP; (case p => (repeat' (first | assumption | apply Ab.Prv.set))))))
    case he => exact evr_
    case hg => rfl
    · exact (LW.mk (y := ⟨⟨last, cur, prop, over⟩, ackS ⟨base, sent, q, clock⟩ ack, ⟨next', owes'⟩⟩) (n := ⟨[], [p], false, 0⟩) ⟨_, rfl, hv7⟩ ⟨_, _, rfl, .nil, (hcm.sub datQ I7.old)⟩).1
    · exact (LW.mk (y := ⟨⟨last, cur, prop, over⟩, ackS ⟨base, sent, q, clock⟩ ack, ⟨next', owes'⟩⟩) (n := ⟨[], [p], false, 0⟩) ⟨_, rfl, hv7⟩ ⟨_, _, rfl, .nil, (hcm.sub datQ I7.old)⟩).2

end Go.Proofs.Ytoiplbackllgfaa
