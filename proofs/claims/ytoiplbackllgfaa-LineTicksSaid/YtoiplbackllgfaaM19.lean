/- texts of this claim, one behind the other: MF. -/
import Derived.Test.YtoiplbackllgfaaM17
import Derived.Test.YtoiplbackllgfaaM18

/- lines: what is refused at a tick; the law of LineTicks, walked. -/
namespace Go.Proofs.Ytoiplbackllgfaa
set_option linter.unusedVariables false
set_option linter.unusedSimpArgs false
set_option linter.unusedSectionVars false
open Go.RowKit Ab HP
attribute [local irreducible] AOps AOpsD AOpsP QStep NX AOp AWp put nargs AHeap.set At Free ACall ACallE thenQ blockQ roundQ RetQ RetE Src Gr
theorem ltick_len {l : Ln} : (ltick l).1.s.q.length = l.s.q.length ∧ (ltick l).2.frames.length ≤ l.s.q.length + 1 ∧ (ltick l).2.came.length = 0 := by
  unfold ltick; split
  · exact ⟨rfl, by simp, rfl⟩
  · exact ⟨tickS_len.1, by show (frs _ _ _).length ≤ _; rw [frs_length]; exact Nat.le_succ_of_le tickS_len.2, rfl⟩
theorem lflush_len {l : Ln} : (lflush l).1.s.q.length = l.s.q.length ∧ (lflush l).2.frames.length ≤ l.s.q.length + 1 ∧ (lflush l).2.came.length = 0 := by
  unfold lflush
  refine ⟨readyS_len.1, ?_, rfl⟩
  have := readyS_len (x := l.s)
  show (if l.t.owes = true then frs l.h.cur l.t.next (readyS l.s).2 ++ [⟨4, l.h.cur, 0, l.t.next, []⟩] else frs l.h.cur l.t.next (readyS l.s).2).length ≤ _
  split
  · rw [List.length_append, frs_length]; exact Nat.succ_le_succ this.2
  · rw [frs_length]; exact Nat.le_succ_of_le this.2
set_option maxRecDepth 100000 in
set_option maxHeartbeats 4000000 in
theorem tick26_bad {s : AHeap} {last cur prop base sent clock next lim : Int} {over owes : Bool} {v : Value} {q : List (List Int)} (h : Qt s v q) (hq : q.length ≤ 1000000000) (hx : ¬ (Ln.May ⟨⟨last, cur, prop, over⟩, ⟨base, sent, q, clock⟩, ⟨next, owes⟩⟩ ∧ (1 ≤ lim ∧ lim ≤ 2147483647))) :
    ACall Try.prog 26 [.agg (lna last cur prop over base sent v clock next owes).toArray, .int .i64 lim] s (.tuple #[.agg ln00.toArray, .agg nw00.toArray, .int .i64 1]) s := by
  refine ACall.make Try.func26 rfl (by kernel_rfl) (by decide) rfl (fun N hN0 => ?_)
  have hT : Top N s := hN0
  obtain ⟨s1, hs1⟩ : ∃ s1 : AHeap, s1 = ((s.set N (.cells true 1 (lna last cur prop over base sent v clock next owes))).set (N + 1) (.cells true 1 ln00)).set (N + 2) (.cells true 1 nw00) := ⟨_, rfl⟩
  have F0 : Fr s1 s [] := by rw [hs1]; exact Fr.new (hT.free (by omega)) (Fr.new (hT.free (by omega)) (Fr.new (hT.free (Nat.le_refl _)) (Fr.refl _ _)))
  have F1 : Fr ((s1.set (N + 1) (.cells true 1 ln00)).set (N + 2) (.cells true 1 nw00)) s [] := Fr.new (hT.free (by omega)) (Fr.new (hT.free (by omega)) F0)
  have hS : Sub s s1 := fun i c hc => F0 i (by simp) c hc
  have aN : At s1 N (.cells true 1 (lna last cur prop over base sent v clock next owes)) := by rw [hs1]; exact at_
  have aN1 : At s1 (N + 1) (.cells true 1 ln00) := by rw [hs1]; exact at_
  have aN2 : At s1 (N + 2) (.cells true 1 nw00) := by rw [hs1]; exact At.hit
  have c14 := checkL' (s := s1) (last := last) (cur := cur) (prop := prop) (over := over) (base := base) (sent := sent) (clock := clock) (next := next) (owes := owes) (h.sub datQ hS) hq
  have c31 := count_dec (s := s1) (n := lim)

  by_cases hm : Ln.May ⟨⟨last, cur, prop, over⟩, ⟨base, sent, q, clock⟩, ⟨next, owes⟩⟩
  case neg =>
    rw [if_neg hm] at c14
    (repeat' (first | (apply Ab.K.ev; exact ev_) | (apply Ab.K.aops; first | (apply Xg.s; constructor) | apply Ab.S.guardG) | (apply Ab.K.aop; first | (first | (apply Ab.O.boxA N; (case hx => exact ev_); (case hid => exact frees_)) | (apply Ab.O.allocA (N + 1); (case hid => exact frees_); (case hp => rfl)) | (apply Ab.O.allocA (N + 2); (case hid => exact frees_); (case hp => rfl))) | (apply Og.s; constructor)) | (apply Ab.K.gk; first | (apply Xg.s; constructor) | (apply Ab.gY; case hw => assumption) | (apply Ab.gNT; case hw => assumption) | (apply Ab.gNF; case hw => assumption) | ((first | apply Ab.gD | apply Ab.gDN); all_goals (intro _ _; (first | contradiction | (exfalso; omega) | skip)))) | (apply Ab.K.awp; first | (apply Xg.s; constructor)) | (apply Ab.K.at_; exact at_) | (apply Ab.K.acall; first | assumption | first | exact c31 | (rw [← hs1]; exact c14)) | (apply Ab.Rg.mk; omega) | (apply Ab.Lt.mk; first | decide | (simp; done) | (simp; omega) | fail) | (apply Ab.Get.mk; first | rfl | fail) | (apply Ab.Nm.mk; first | exact nrm_) | (apply Xg.s; constructor) | (apply Ab.asm; assumption) | rfl | infer_instance | decide))
    all_goals ((first | apply RetQ.ret | apply RetQ.normal); (case he => exact evr_); (case hg => rfl))
    all_goals first | rfl | exact Keeps.fr F1 (plR.nm rfl)
  rw [if_pos hm] at c14
  rw [decide_eq_false (fun e => hx ⟨hm, e⟩)] at c31
  (repeat' (first | (apply Ab.K.ev; exact ev_) | (apply Ab.K.aops; first | (apply Xg.s; constructor) | apply Ab.S.guardG) | (apply Ab.K.aop; first | (first | (apply Ab.O.boxA N; (case hx => exact ev_); (case hid => exact frees_)) | (apply Ab.O.allocA (N + 1); (case hid => exact frees_); (case hp => rfl)) | (apply Ab.O.allocA (N + 2); (case hid => exact frees_); (case hp => rfl))) | (apply Og.s; constructor)) | (apply Ab.K.gk; first | (apply Xg.s; constructor) | (apply Ab.gY; case hw => assumption) | (apply Ab.gNT; case hw => assumption) | (apply Ab.gNF; case hw => assumption) | ((first | apply Ab.gD | apply Ab.gDN); all_goals (intro _ _; (first | contradiction | (exfalso; omega) | skip)))) | (apply Ab.K.awp; first | (apply Xg.s; constructor)) | (apply Ab.K.at_; exact at_) | (apply Ab.K.acall; first | assumption | first | exact c31 | (rw [← hs1]; exact c14)) | (apply Ab.Rg.mk; omega) | (apply Ab.Lt.mk; first | decide | (simp; done) | (simp; omega) | fail) | (apply Ab.Get.mk; first | rfl | fail) | (apply Ab.Nm.mk; first | exact nrm_) | (apply Xg.s; constructor) | (apply Ab.asm; assumption) | rfl | infer_instance | decide))
  all_goals ((first | apply RetQ.ret | apply RetQ.normal); (case he => exact evr_); (case hg => rfl))
  all_goals first | rfl | exact Keeps.fr F1 (plR.nm rfl)
set_option maxRecDepth 100000 in
set_option maxHeartbeats 4000000 in
theorem flush27_bad {s : AHeap} {last cur prop base sent clock next : Int} {over owes : Bool} {v : Value} {q : List (List Int)} (h : Qt s v q) (hq : q.length ≤ 1000000000) (hx : ¬ Ln.May ⟨⟨last, cur, prop, over⟩, ⟨base, sent, q, clock⟩, ⟨next, owes⟩⟩) :
    ACall Try.prog 27 [.agg (lna last cur prop over base sent v clock next owes).toArray] s (.tuple #[.agg ln00.toArray, .agg nw00.toArray, .int .i64 1]) s := by
  refine ACall.make Try.func27 rfl (by kernel_rfl) (by decide) rfl (fun N hN0 => ?_)
  have hT : Top N s := hN0
  obtain ⟨s1, hs1⟩ : ∃ s1 : AHeap, s1 = ((s.set N (.cells true 1 (lna last cur prop over base sent v clock next owes))).set (N + 1) (.cells true 1 ln00)).set (N + 2) (.cells true 1 nw00) := ⟨_, rfl⟩
  have F0 : Fr s1 s [] := by rw [hs1]; exact Fr.new (hT.free (by omega)) (Fr.new (hT.free (by omega)) (Fr.new (hT.free (Nat.le_refl _)) (Fr.refl _ _)))
  have F1 : Fr ((s1.set (N + 1) (.cells true 1 ln00)).set (N + 2) (.cells true 1 nw00)) s [] := Fr.new (hT.free (by omega)) (Fr.new (hT.free (by omega)) F0)
  have hS : Sub s s1 := fun i c hc => F0 i (by simp) c hc
  have aN : At s1 N (.cells true 1 (lna last cur prop over base sent v clock next owes)) := by rw [hs1]; exact at_
  have aN1 : At s1 (N + 1) (.cells true 1 ln00) := by rw [hs1]; exact at_
  have aN2 : At s1 (N + 2) (.cells true 1 nw00) := by rw [hs1]; exact At.hit
  have c14 := checkL' (s := s1) (last := last) (cur := cur) (prop := prop) (over := over) (base := base) (sent := sent) (clock := clock) (next := next) (owes := owes) (h.sub datQ hS) hq

  rw [if_neg hx] at c14
  (repeat' (first | (apply Ab.K.ev; exact ev_) | (apply Ab.K.aops; first | (apply Xg.s; constructor) | apply Ab.S.guardG) | (apply Ab.K.aop; first | (first | (apply Ab.O.boxA N; (case hx => exact ev_); (case hid => exact frees_)) | (apply Ab.O.allocA (N + 1); (case hid => exact frees_); (case hp => rfl)) | (apply Ab.O.allocA (N + 2); (case hid => exact frees_); (case hp => rfl))) | (apply Og.s; constructor)) | (apply Ab.K.gk; first | (apply Xg.s; constructor) | (apply Ab.gY; case hw => assumption) | (apply Ab.gNT; case hw => assumption) | (apply Ab.gNF; case hw => assumption) | ((first | apply Ab.gD | apply Ab.gDN); all_goals (intro _ _; (first | contradiction | (exfalso; omega) | skip)))) | (apply Ab.K.awp; first | (apply Xg.s; constructor)) | (apply Ab.K.at_; exact at_) | (apply Ab.K.acall; first | assumption | first | (rw [← hs1]; exact c14)) | (apply Ab.Rg.mk; omega) | (apply Ab.Lt.mk; first | decide | (simp; done) | (simp; omega) | fail) | (apply Ab.Get.mk; first | rfl | fail) | (apply Ab.Nm.mk; first | exact nrm_) | (apply Xg.s; constructor) | (apply Ab.asm; assumption) | rfl | infer_instance | decide))
  all_goals ((first | apply RetQ.ret | apply RetQ.normal); (case he => exact evr_); (case hg => rfl))
  all_goals first | rfl | exact Keeps.fr F1 (plR.nm rfl)
set_option maxRecDepth 100000 in
set_option maxHeartbeats 8000000 in
theorem law6 {s : AHeap} {last cur prop base sent clock next : Int} {over owes : Bool} {v : Value} {q : List (List Int)} {lim : Int} (h : Qt s v q) (hz : Sized q) :
    ACall Try.prog 6 [.agg (lna last cur prop over base sent v clock next owes).toArray, .int .i64 lim] s (.bool true) s := by
  refine ACall.make Try.func6 rfl (by kernel_rfl) (by decide) rfl (fun N hN0 => ?_)
  have hT : Top N s := hN0
  obtain ⟨A, cap, rfl, hcap⟩ := h.isl
  obtain ⟨s1, hs1⟩ : ∃ s1 : AHeap, s1 = s.set N (.cells true 1 (lna last cur prop over base sent (.slice A q.length cap) clock next owes)) := ⟨_, rfl⟩
  have F1 : Fr s1 s [] := by rw [hs1]; exact Fr.new (hT.free (Nat.le_refl _)) (Fr.refl _ _)
  have hS : Sub s s1 := fun i c hc => F1 i (by simp) c hc
  have T1 : Top (N + 1) s1 := by rw [hs1]; exact hT.new
  have aN : At s1 N (.cells true 1 (lna last cur prop over base sent (.slice A q.length cap) clock next owes)) := by rw [hs1]; exact At.hit
  have cl := light8 (base := base) (sent := sent) (clock := clock) (h.sub datQ hS) hz
  have c9 : ∀ s : AHeap, ACall Try.prog 9 [] s (.bool true) s := fun s => awake9
  (repeat' (first | (apply Ab.K.ev; exact ev_) | (apply Ab.K.aops; first | (apply Xg.s; constructor) | apply Ab.S.guardG) | (apply Ab.K.aop; first | (first | (apply Ab.O.boxA N; (case hx => exact ev_); (case hid => exact frees_)) | (apply Ab.O.callFE; (case ha => exact evs_); (case hc => rw [← hs1]; exact cl))) | (apply Og.s; constructor)) | (apply Ab.K.gk; first | (apply Xg.s; constructor) | (apply Ab.gY; case hw => assumption) | (apply Ab.gNT; case hw => assumption) | (apply Ab.gNF; case hw => assumption) | ((first | apply Ab.gD | apply Ab.gDN); all_goals (intro _ _; (first | contradiction | (exfalso; omega) | skip)))) | (apply Ab.K.awp; first | (apply Xg.s; constructor)) | (apply Ab.K.at_; exact at_) | (apply Ab.K.acall; first | assumption | first | (rw [← hs1]; exact c14)) | (apply Ab.Rg.mk; omega) | (apply Ab.Lt.mk; first | decide | (simp; done) | (simp; omega) | fail) | (apply Ab.Get.mk; first | rfl | fail) | (apply Ab.Nm.mk; first | exact nrm_) | (apply Xg.s; constructor) | (apply Ab.asm; assumption) | rfl | infer_instance | decide))
  rintro r s2 ⟨l, rfl, hl, rfl⟩
  clear cl

  cases l
  case false =>
    (repeat' (first | (apply Ab.K.ev; exact ev_) | (apply Ab.K.aops; first | (apply Xg.s; constructor) | apply Ab.S.guardG) | (apply Ab.K.aop; first | (apply Og.s; constructor)) | (apply Ab.K.gk; first | (apply Xg.s; constructor) | (apply Ab.gY; case hw => assumption) | (apply Ab.gNT; case hw => assumption) | (apply Ab.gNF; case hw => assumption) | ((first | apply Ab.gD | apply Ab.gDN); all_goals (intro _ _; (first | contradiction | (exfalso; omega) | skip)))) | (apply Ab.K.awp; first | (apply Xg.s; constructor)) | (apply Ab.K.at_; exact at_) | (apply Ab.K.acall; first | assumption | exact c9 _) | (apply Ab.Rg.mk; omega) | (apply Ab.Lt.mk; first | decide | (simp; done) | (simp; omega) | fail) | (apply Ab.Get.mk; first | rfl | fail) | (apply Ab.Nm.mk; first | exact nrm_) | (apply Xg.s; constructor) | (apply Ab.asm; assumption) | rfl | infer_instance | decide))
    all_goals ((first | apply RetQ.ret | apply RetQ.normal); (case he => exact evr_); (case hg => rfl))
    all_goals first | rfl | exact Keeps.fr F1 (plR.nm rfl)
  obtain ⟨hq, hql⟩ := hl rfl
  have c12 : ∀ s' : AHeap, ACall Try.prog 12 [.int .i64 lim] s' (.bool (decide (1 ≤ lim ∧ lim ≤ 2147483647))) s' := fun s' => limit_dec
  have c15 : ∀ s : AHeap, ACall Try.prog 15 [.agg ln00.toArray, .agg nw00.toArray, .int .i64 1] s (.bool true) s := fun s => bad15
  by_cases hm : Ln.May ⟨⟨last, cur, prop, over⟩, ⟨base, sent, q, clock⟩, ⟨next, owes⟩⟩
  case neg =>
    obtain ⟨s3, hs3⟩ : ∃ s3 : AHeap, s3 = (((s2.set (N + 1) (.cells true 1 ln00)).set (N + 2) (.cells true 1 nw00)).set (N + 1) (.cells true 1 ln00)).set (N + 2) (.cells true 1 nw00) := ⟨_, rfl⟩
    have F3 : Fr s3 s [] := by rw [hs3]; exact Fr.new (hT.free (by omega)) (Fr.new (hT.free (by omega)) (Fr.new (hT.free (by omega)) (Fr.new (hT.free (by omega)) F1)))
    have hS3 : Sub s s3 := fun i c hc => F3 i (by simp) c hc
    have T3 : Top (N + 3) s3 := by rw [hs3]; exact (T1.new.new.set (by omega)).set (by omega)
    have b0 : At s3 N (.cells true 1 (lna last cur prop over base sent (.slice A q.length cap) clock next owes)) := by rw [hs3]; exact at_
    have b1 : At s3 (N + 1) (.cells true 1 ln00) := by rw [hs3]; exact at_
    have b2 : At s3 (N + 2) (.cells true 1 nw00) := by rw [hs3]; exact At.hit
    obtain ⟨s4, hs4⟩ : ∃ s4 : AHeap, s4 = (((s3.set (N + 3) (.cells true 1 ln00)).set (N + 4) (.cells true 1 nw00)).set (N + 3) (.cells true 1 ln00)).set (N + 4) (.cells true 1 nw00) := ⟨_, rfl⟩
    have F4 : Fr s4 s [] := by rw [hs4]; exact Fr.new (hT.free (by omega)) (Fr.new (hT.free (by omega)) (Fr.new (hT.free (by omega)) (Fr.new (hT.free (by omega)) F3)))
    have hS4 : Sub s s4 := fun i c hc => F4 i (by simp) c hc
    have d1 : At s4 (N + 1) (.cells true 1 ln00) := by rw [hs4]; exact at_
    have d2 : At s4 (N + 2) (.cells true 1 nw00) := by rw [hs4]; exact at_
    have d3 : At s4 (N + 3) (.cells true 1 ln00) := by rw [hs4]; exact at_
    have d4 : At s4 (N + 4) (.cells true 1 nw00) := by rw [hs4]; exact At.hit
    have c26 := tick26_bad (last := last) (cur := cur) (prop := prop) (over := over) (base := base) (sent := sent) (clock := clock) (next := next) (owes := owes) (lim := lim) (h.sub datQ hS) (by omega) (fun e => hm e.1)
    have c27 := flush27_bad (last := last) (cur := cur) (prop := prop) (over := over) (base := base) (sent := sent) (clock := clock) (next := next) (owes := owes) (h.sub datQ hS3) (by omega) hm
    have c11 := mayL' (s := s4) (last := last) (cur := cur) (prop := prop) (over := over) (base := base) (sent := sent) (clock := clock) (next := next) (owes := owes) (h.sub datQ hS4) (by omega)
    rw [decide_eq_false hm] at c11

    (repeat' (first | (apply Ab.K.ev; exact ev_) | (apply Ab.K.aops; first | (apply Xg.s; constructor) | apply Ab.S.guardG) | (apply Ab.K.aop; first | (first | (apply Ab.O.allocA (N + 1); (case hid => exact T1.free (Nat.le_refl _)); (case hp => rfl)) | (apply Ab.O.allocA (N + 2); (case hid => exact T1.new.free (Nat.le_refl _)); (case hp => rfl)) | (apply Ab.O.allocA (N + 3); (case hid => exact T3.free (Nat.le_refl _)); (case hp => rfl)) | (apply Ab.O.allocA (N + 4); (case hid => exact T3.new.free (Nat.le_refl _)); (case hp => rfl))) | (apply Og.s; constructor)) | (apply Ab.K.gk; first | (apply Xg.s; constructor) | (apply Ab.gY; case hw => assumption) | (apply Ab.gNT; case hw => assumption) | (apply Ab.gNF; case hw => assumption) | ((first | apply Ab.gD | apply Ab.gDN); all_goals (intro _ _; (first | contradiction | (exfalso; omega) | skip)))) | (apply Ab.K.awp; first | (apply Xg.s; constructor)) | (apply Ab.K.at_; exact at_) | (apply Ab.K.acall; first | assumption | first | exact c26 | (rw [← hs1]; exact c26) | (rw [← hs3]; exact c27) | (rw [← hs4]; exact c11) | exact c15 _ | exact c9 _) | (apply Ab.Rg.mk; omega) | (apply Ab.Lt.mk; first | decide | (simp; done) | (simp; omega) | fail) | (apply Ab.Get.mk; first | rfl | fail) | (apply Ab.Nm.mk; first | exact nrm_) | (apply Xg.s; constructor) | (apply Ab.asm; assumption) | rfl | infer_instance | decide))
    all_goals ((first | apply RetQ.ret | apply RetQ.normal); (case he => exact evr_); (case hg => rfl))
    all_goals first | rfl | exact Keeps.fr F4 (plR.nm rfl)
  have hsd : 0 ≤ sent := by
    have := hm.1.2.1.1
    simp only [Sd.Ok] at this
    omega
  obtain ⟨k, rfl⟩ : ∃ k : Nat, sent = k := ⟨sent.toNat, by omega⟩
  obtain ⟨Z, hZ⟩ : ∃ Z, Z = lflush ⟨⟨last, cur, prop, over⟩, ⟨base, (k : Nat), q, clock⟩, ⟨next, owes⟩⟩ := ⟨_, rfl⟩
  obtain ⟨z1, z2, z3⟩ := lflush_len (l := ⟨⟨last, cur, prop, over⟩, ⟨base, (k : Nat), q, clock⟩, ⟨next, owes⟩⟩)
  rw [← hZ] at z1 z2 z3
  replace z1 : Z.1.s.q.length ≤ 300 := by rw [z1]; exact hq
  replace z2 : Z.2.frames.length ≤ 1000 := Nat.le_trans z2 (by show q.length + 1 ≤ _; omega)
  by_cases hli : 1 ≤ lim ∧ lim ≤ 2147483647
  case neg =>
    rw [decide_eq_false hli] at c12
    have c26 := tick26_bad (last := last) (cur := cur) (prop := prop) (over := over) (base := base) (sent := k) (clock := clock) (next := next) (owes := owes) (lim := lim) (h.sub datQ hS) (by omega) (fun e => hli e.2)
    obtain ⟨s4, hs4⟩ : ∃ s4 : AHeap, s4 = (((s2.set (N + 1) (.cells true 1 ln00)).set (N + 2) (.cells true 1 nw00)).set (N + 1) (.cells true 1 ln00)).set (N + 2) (.cells true 1 nw00) := ⟨_, rfl⟩
    have F4 : Fr s4 s [] := by rw [hs4]; exact Fr.new (hT.free (by omega)) (Fr.new (hT.free (by omega)) (Fr.new (hT.free (by omega)) (Fr.new (hT.free (by omega)) F1)))
    have hb4 : Sub s s4 := fun i c hc => F4 i (by simp) c hc
    have ho4 : Sub s s := Sub.refl _
    have T4 : Top (N + 3) s4 := by rw [hs4]; exact (T1.new.new.set (by omega)).set (by omega)
    have a4 : At s4 N (.cells true 1 (lna last cur prop over base k (.slice A q.length cap) clock next owes)) := by rw [hs4]; exact at_
    have p1 : At s4 (N + 1) (.cells true 1 ln00) := by rw [hs4]; exact at_
    have p2 : At s4 (N + 2) (.cells true 1 nw00) := by rw [hs4]; exact At.hit
    have c27 := flush27' (last := last) (cur := cur) (prop := prop) (over := over) (base := base) (sent := k) (clock := clock) (next := next) (owes := owes) hb4 (h.sub datQ ho4) hm
    rw [← hZ] at c27

    (repeat' (first | (apply Ab.K.ev; exact ev_) | (apply Ab.K.aops; first | (apply Xg.s; constructor) | apply Ab.S.guardG) | (apply Ab.K.aop; first | (first | (apply Ab.O.allocA (N + 1); (case hid => exact T1.free (Nat.le_refl _)); (case hp => rfl)) | (apply Ab.O.allocA (N + 2); (case hid => exact T1.new.free (Nat.le_refl _)); (case hp => rfl)) | (apply Ab.O.callFE; (case ha => exact evs_); (case hc => rw [← hs4]; exact c27))) | (apply Og.s; constructor)) | (apply Ab.K.gk; first | (apply Xg.s; constructor) | (apply Ab.gY; case hw => assumption) | (apply Ab.gNT; case hw => assumption) | (apply Ab.gNF; case hw => assumption) | ((first | apply Ab.gD | apply Ab.gDN); all_goals (intro _ _; (first | contradiction | (exfalso; omega) | skip)))) | (apply Ab.K.awp; first | (apply Xg.s; constructor)) | (apply Ab.K.at_; exact at_) | (apply Ab.K.acall; first | assumption | first | exact c26 | (rw [← hs1]; exact c26)) | (apply Ab.Rg.mk; omega) | (apply Ab.Lt.mk; first | decide | (simp; done) | (simp; omega) | fail) | (apply Ab.Get.mk; first | rfl | fail) | (apply Ab.Nm.mk; first | exact nrm_) | (apply Xg.s; constructor) | (apply Ab.asm; assumption) | rfl | infer_instance | decide))
    rintro r s5 ⟨b5, I5, c5, d5, rfl, ⟨v5, rfl, hv5⟩, ⟨vf5, vc5, rfl, hf5, hc5⟩⟩
    clear c27
    obtain ⟨Bv5, cv5, rfl, _⟩ := hv5.isl
    obtain ⟨Bf5, cf5, rfl, _⟩ := hf5.isl
    obtain ⟨Bc5, cc5, rfl, _⟩ := hc5.isl
    obtain ⟨M5, hM5, T5⟩ := I5.fin _ T4
    have e0 := I5.kp.at_ a4
    have e1 := I5.kp.at_ p1
    have e2 := I5.kp.at_ p2
    have F5 : Fr s5 s [] := fun i hi c hc => I5.kp i c (F4 i hi c hc)
    obtain ⟨s6, hs6⟩ : ∃ s6 : AHeap, s6 = (((s5.set M5 (.cells true 1 ln00)).set (M5 + 1) (.cells true 1 nw00)).set M5 (.cells true 1 (lnl Z.1.h Z.1.s (.slice Bv5 Z.1.s.q.length cv5) Z.1.t))).set (M5 + 1) (.cells true 1 [.slice Bf5 Z.2.frames.length cf5, .slice Bc5 Z.2.came.length cc5, .bool Z.2.down, .int .i64 Z.2.ses]) := ⟨_, rfl⟩
    have F6 : Fr s6 s [] := by rw [hs6]; exact Fr.new (hT.free (by omega)) (Fr.new (hT.free (by omega)) (Fr.new (hT.free (by omega)) (Fr.new (hT.free (by omega)) F5)))
    have hS6 : Sub s s6 := fun i c hc => F6 i (by simp) c hc
    have T6 : Top (M5 + 2) s6 := by rw [hs6]; exact Top.set (Top.set T5.new.new (by omega)) (by omega)
    have f0 : At s6 N (.cells true 1 (lna last cur prop over base k (.slice A q.length cap) clock next owes)) := by rw [hs6]; exact at_
    have f1 : At s6 (N + 1) (.cells true 1 ln00) := by rw [hs6]; exact at_
    have f2 : At s6 (N + 2) (.cells true 1 nw00) := by rw [hs6]; exact at_
    have f3 : At s6 M5 (.cells true 1 (lnl Z.1.h Z.1.s (.slice Bv5 Z.1.s.q.length cv5) Z.1.t)) := by rw [hs6]; exact at_
    have f4 : At s6 (M5 + 1) (.cells true 1 [.slice Bf5 Z.2.frames.length cf5, .slice Bc5 Z.2.came.length cc5, .bool Z.2.down, .int .i64 Z.2.ses]) := by rw [hs6]; exact At.hit
    have n5 : ∀ i, M5 ≤ i → b5 i = none := fun i hi => I5.sub.none (T5.none hi)
    have hb6 : Sub b5 s6 := by rw [hs6]; exact (((I5.sub.setR (n5 _ (by omega))).setR (n5 _ (by omega))).setR (n5 _ (by omega))).setR (n5 _ (by omega))
    have c11 := mayL' (s := s6) (last := last) (cur := cur) (prop := prop) (over := over) (base := base) (sent := k) (clock := clock) (next := next) (owes := owes) (h.sub datQ hS6) (by omega)
    rw [decide_eq_true hm] at c11
    have c28 := flush28' (last := last) (cur := cur) (prop := prop) (over := over) (base := base) (sent := k) (clock := clock) (next := next) (owes := owes) hb6 (h.sub datQ (ho4.trans I5.old)) hm
    rw [← hZ] at c28

    (repeat' (first | (apply Ab.K.ev; exact ev_) | (apply Ab.K.aops; first | (apply Xg.s; constructor) | apply Ab.S.guardG) | (apply Ab.K.aop; first | (first | (apply Ab.O.allocA M5; (case hid => exact T5.free (Nat.le_refl _)); (case hp => rfl)) | (apply Ab.O.allocA (M5 + 1); (case hid => exact T5.new.free (Nat.le_refl _)); (case hp => rfl)) | (apply Ab.O.callFE; (case ha => exact evs_); (case hc => first | exact c28 | (rw [← hs6]; exact c28)))) | (apply Og.s; constructor)) | (apply Ab.K.gk; first | (apply Xg.s; constructor) | (apply Ab.gY; case hw => assumption) | (apply Ab.gNT; case hw => assumption) | (apply Ab.gNF; case hw => assumption) | ((first | apply Ab.gD | apply Ab.gDN); all_goals (intro _ _; (first | contradiction | (exfalso; omega) | skip)))) | (apply Ab.K.awp; first | (apply Xg.s; constructor)) | (apply Ab.K.at_; exact at_) | (apply Ab.K.acall; first | assumption | first | (rw [← hs6]; exact c11) | exact c11) | (apply Ab.Rg.mk; omega) | (apply Ab.Lt.mk; first | decide | (simp; done) | (simp; omega) | fail) | (apply Ab.Get.mk; first | rfl | fail) | (apply Ab.Nm.mk; first | exact nrm_) | (apply Xg.s; constructor) | (apply Ab.asm; assumption) | rfl | infer_instance | decide))
    rintro r s7 ⟨b7, I7, c7, d7, rfl, ⟨v7, rfl, hv7⟩, ⟨vf7, vc7, rfl, hf7, hc7⟩⟩
    clear c28 c11
    obtain ⟨Bv7, cv7, rfl, _⟩ := hv7.isl
    obtain ⟨Bf7, cf7, rfl, _⟩ := hf7.isl
    obtain ⟨Bc7, cc7, rfl, _⟩ := hc7.isl
    obtain ⟨M7, hM7, T7⟩ := I7.fin _ T6
    have g0 := I7.kp.at_ f0
    have g1 := I7.kp.at_ f1
    have g2 := I7.kp.at_ f2
    have g3 := I7.kp.at_ f3
    have g4 := I7.kp.at_ f4
    have F7 : Fr s7 s [] := fun i hi c hc => I7.kp i c (F6 i hi c hc)
    obtain ⟨s8, hs8⟩ : ∃ s8 : AHeap, s8 = (((s7.set M7 (.cells true 1 ln00)).set (M7 + 1) (.cells true 1 nw00)).set M7 (.cells true 1 (lnl Z.1.h Z.1.s (.slice Bv7 Z.1.s.q.length cv7) Z.1.t))).set (M7 + 1) (.cells true 1 [.slice Bf7 Z.2.frames.length cf7, .slice Bc7 Z.2.came.length cc7, .bool Z.2.down, .int .i64 Z.2.ses]) := ⟨_, rfl⟩
    have F8 : Fr s8 s [] := by rw [hs8]; exact Fr.new (hT.free (by omega)) (Fr.new (hT.free (by omega)) (Fr.new (hT.free (by omega)) (Fr.new (hT.free (by omega)) F7)))
    have T8 : Top (M7 + 2) s8 := by rw [hs8]; exact Top.set (Top.set T7.new.new (by omega)) (by omega)
    have h0 : At s8 N (.cells true 1 (lna last cur prop over base k (.slice A q.length cap) clock next owes)) := by rw [hs8]; exact at_
    have h1 : At s8 (N + 1) (.cells true 1 ln00) := by rw [hs8]; exact at_
    have h2 : At s8 (N + 2) (.cells true 1 nw00) := by rw [hs8]; exact at_
    have h3 : At s8 M5 (.cells true 1 (lnl Z.1.h Z.1.s (.slice Bv5 Z.1.s.q.length cv5) Z.1.t)) := by rw [hs8]; exact at_
    have h4 : At s8 (M5 + 1) (.cells true 1 [.slice Bf5 Z.2.frames.length cf5, .slice Bc5 Z.2.came.length cc5, .bool Z.2.down, .int .i64 Z.2.ses]) := by rw [hs8]; exact at_
    have h5 : At s8 M7 (.cells true 1 (lnl Z.1.h Z.1.s (.slice Bv7 Z.1.s.q.length cv7) Z.1.t)) := by rw [hs8]; exact at_
    have h6 : At s8 (M7 + 1) (.cells true 1 [.slice Bf7 Z.2.frames.length cf7, .slice Bc7 Z.2.came.length cc7, .bool Z.2.down, .int .i64 Z.2.ses]) := by rw [hs8]; exact At.hit
    have n7 : ∀ i, M7 ≤ i → b7 i = none := fun i hi => I7.sub.none (T7.none hi)
    have hb8 : Sub b7 s8 := by rw [hs8]; exact (((I7.sub.setR (n7 _ (by omega))).setR (n7 _ (by omega))).setR (n7 _ (by omega))).setR (n7 _ (by omega))
    have ca := same17 (s := s8) (x := Z.1) (y := Z.1) ⟨_, rfl, hv5.sub datQ (I7.old.trans hb8)⟩ ⟨_, rfl, hv7.sub datQ hb8⟩ (by omega) (by omega)
    have cn := news18 (s := s8) (x := Z.2) (y := Z.2) ⟨_, _, rfl, hf5.sub datF (I7.old.trans hb8), hc5.sub datQ (I7.old.trans hb8)⟩ ⟨_, _, rfl, hf7.sub datF hb8, hc7.sub datQ hb8⟩ (by omega) (by omega) (by omega) (by omega)
    rw [decide_eq_true rfl] at ca cn

    (repeat' (first | (apply Ab.K.ev; exact ev_) | (apply Ab.K.aops; first | (apply Xg.s; constructor) | apply Ab.S.guardG) | (apply Ab.K.aop; first | (first | (apply Ab.O.allocA M7; (case hid => exact T7.free (Nat.le_refl _)); (case hp => rfl)) | (apply Ab.O.allocA (M7 + 1); (case hid => exact T7.new.free (Nat.le_refl _)); (case hp => rfl))) | (apply Og.s; constructor)) | (apply Ab.K.gk; first | (apply Xg.s; constructor) | (apply Ab.gY; case hw => assumption) | (apply Ab.gNT; case hw => assumption) | (apply Ab.gNF; case hw => assumption) | ((first | apply Ab.gD | apply Ab.gDN); all_goals (intro _ _; (first | contradiction | (exfalso; omega) | skip)))) | (apply Ab.K.awp; first | (apply Xg.s; constructor)) | (apply Ab.K.at_; exact at_) | (apply Ab.K.acall; first | assumption | first | (rw [← hs8]; exact ca) | exact ca | exact cn | (rw [← hs8]; exact cn) | exact c12 _ | exact c15 _ | exact c9 _) | (apply Ab.Rg.mk; omega) | (apply Ab.Lt.mk; first | decide | (simp; done) | (simp; omega) | fail) | (apply Ab.Get.mk; first | rfl | fail) | (apply Ab.Nm.mk; first | exact nrm_) | (apply Xg.s; constructor) | (apply Ab.asm; assumption) | rfl | infer_instance | decide))
    all_goals ((first | apply RetQ.ret | apply RetQ.normal); (case he => exact evr_); (case hg => rfl))
    all_goals first | rfl | exact Keeps.fr F8 (plR.nm rfl)
  rw [decide_eq_true hli] at c12
  obtain ⟨Y, hY⟩ : ∃ Y, Y = ltick ⟨⟨last, cur, prop, over⟩, ⟨base, (k : Nat), q, clock⟩, ⟨next, owes⟩⟩ := ⟨_, rfl⟩
  obtain ⟨y1, y2, y3⟩ := ltick_len (l := ⟨⟨last, cur, prop, over⟩, ⟨base, (k : Nat), q, clock⟩, ⟨next, owes⟩⟩)
  rw [← hY] at y1 y2 y3
  replace y1 : Y.1.s.q.length ≤ 300 := by rw [y1]; exact hq
  replace y2 : Y.2.frames.length ≤ 1000 := Nat.le_trans y2 (by show q.length + 1 ≤ _; omega)
  have c26 := tick26' (last := last) (cur := cur) (prop := prop) (over := over) (base := base) (sent := k) (clock := clock) (next := next) (owes := owes) (lim := lim) hS h hm hli
  rw [← hY] at c26

  (repeat' (first | (apply Ab.K.ev; exact ev_) | (apply Ab.K.aops; first | (apply Xg.s; constructor) | apply Ab.S.guardG) | (apply Ab.K.aop; first | (apply Ab.O.callFE; (case ha => exact evs_); (case hc => first | exact c26 | (rw [← hs1]; exact c26))) | (apply Og.s; constructor)) | (apply Ab.K.gk; first | (apply Xg.s; constructor) | (apply Ab.gY; case hw => assumption) | (apply Ab.gNT; case hw => assumption) | (apply Ab.gNF; case hw => assumption) | ((first | apply Ab.gD | apply Ab.gDN); all_goals (intro _ _; (first | contradiction | (exfalso; omega) | skip)))) | (apply Ab.K.awp; first | (apply Xg.s; constructor)) | (apply Ab.K.at_; exact at_) | (apply Ab.K.acall; first | assumption | fail) | (apply Ab.Rg.mk; omega) | (apply Ab.Lt.mk; first | decide | (simp; done) | (simp; omega) | fail) | (apply Ab.Get.mk; first | rfl | fail) | (apply Ab.Nm.mk; first | exact nrm_) | (apply Xg.s; constructor) | (apply Ab.asm; assumption) | rfl | infer_instance | decide))
  rintro r s3 ⟨b3, I3, c3, d3, rfl, ⟨v3, rfl, hv⟩, ⟨vf3, vc3, rfl, hf, hc⟩⟩
  clear c26 hs1
  obtain ⟨Bv, cv, rfl, _⟩ := hv.isl
  obtain ⟨Bf, cf, rfl, _⟩ := hf.isl
  obtain ⟨Bc, cc, rfl, _⟩ := hc.isl
  obtain ⟨M3, hM3, T3⟩ := I3.fin _ T1
  have a3 := I3.kp.at_ aN
  have F3 : Fr s3 s [] := fun i hi c hc => I3.kp i c (F1 i hi c hc)
  obtain ⟨s4, hs4⟩ : ∃ s4 : AHeap, s4 = (((s3.set M3 (.cells true 1 ln00)).set (M3 + 1) (.cells true 1 nw00)).set M3 (.cells true 1 (lnl Y.1.h Y.1.s (.slice Bv Y.1.s.q.length cv) Y.1.t))).set (M3 + 1) (.cells true 1 [.slice Bf Y.2.frames.length cf, .slice Bc Y.2.came.length cc, .bool Y.2.down, .int .i64 Y.2.ses]) := ⟨_, rfl⟩
  have F4 : Fr s4 s [] := by rw [hs4]; exact Fr.new (hT.free (by omega)) (Fr.new (hT.free (by omega)) (Fr.new (hT.free (by omega)) (Fr.new (hT.free (by omega)) F3)))
  have ho4 : Sub s b3 := I3.old
  have T4 : Top (M3 + 2) s4 := by rw [hs4]; exact (T3.new.new.set (by omega)).set (by omega)
  have a4 : At s4 N (.cells true 1 (lna last cur prop over base k (.slice A q.length cap) clock next owes)) := by rw [hs4]; exact at_
  have p1 : At s4 M3 (.cells true 1 (lnl Y.1.h Y.1.s (.slice Bv Y.1.s.q.length cv) Y.1.t)) := by rw [hs4]; exact at_
  have p2 : At s4 (M3 + 1) (.cells true 1 [.slice Bf Y.2.frames.length cf, .slice Bc Y.2.came.length cc, .bool Y.2.down, .int .i64 Y.2.ses]) := by rw [hs4]; exact At.hit
  have n3 : ∀ i, M3 ≤ i → b3 i = none := fun i hi => I3.sub.none (T3.none hi)
  have hb4 : Sub b3 s4 := by rw [hs4]; exact (((I3.sub.setR (n3 _ (by omega))).setR (n3 _ (by omega))).setR (n3 _ (by omega))).setR (n3 _ (by omega))
  have c27 := flush27' (last := last) (cur := cur) (prop := prop) (over := over) (base := base) (sent := k) (clock := clock) (next := next) (owes := owes) hb4 (h.sub datQ ho4) hm
  rw [← hZ] at c27

  (repeat' (first | (apply Ab.K.ev; exact ev_) | (apply Ab.K.aops; first | (apply Xg.s; constructor) | apply Ab.S.guardG) | (apply Ab.K.aop; first | (first | (apply Ab.O.allocA M3; (case hid => exact T3.free (Nat.le_refl _)); (case hp => rfl)) | (apply Ab.O.allocA (M3 + 1); (case hid => exact T3.new.free (Nat.le_refl _)); (case hp => rfl)) | (apply Ab.O.callFE; (case ha => exact evs_); (case hc => rw [← hs4]; exact c27))) | (apply Og.s; constructor)) | (apply Ab.K.gk; first | (apply Xg.s; constructor) | (apply Ab.gY; case hw => assumption) | (apply Ab.gNT; case hw => assumption) | (apply Ab.gNF; case hw => assumption) | ((first | apply Ab.gD | apply Ab.gDN); all_goals (intro _ _; (first | contradiction | (exfalso; omega) | skip)))) | (apply Ab.K.awp; first | (apply Xg.s; constructor)) | (apply Ab.K.at_; exact at_) | (apply Ab.K.acall; first | assumption | fail) | (apply Ab.Rg.mk; omega) | (apply Ab.Lt.mk; first | decide | (simp; done) | (simp; omega) | fail) | (apply Ab.Get.mk; first | rfl | fail) | (apply Ab.Nm.mk; first | exact nrm_) | (apply Xg.s; constructor) | (apply Ab.asm; assumption) | rfl | infer_instance | decide))
  rintro r s5 ⟨b5, I5, c5, d5, rfl, ⟨v5, rfl, hv5⟩, ⟨vf5, vc5, rfl, hf5, hc5⟩⟩
  clear c27
  obtain ⟨Bv5, cv5, rfl, _⟩ := hv5.isl
  obtain ⟨Bf5, cf5, rfl, _⟩ := hf5.isl
  obtain ⟨Bc5, cc5, rfl, _⟩ := hc5.isl
  obtain ⟨M5, hM5, T5⟩ := I5.fin _ T4
  have e0 := I5.kp.at_ a4
  have e1 := I5.kp.at_ p1
  have e2 := I5.kp.at_ p2
  have F5 : Fr s5 s [] := fun i hi c hc => I5.kp i c (F4 i hi c hc)
  obtain ⟨s6, hs6⟩ : ∃ s6 : AHeap, s6 = (((s5.set M5 (.cells true 1 ln00)).set (M5 + 1) (.cells true 1 nw00)).set M5 (.cells true 1 (lnl Z.1.h Z.1.s (.slice Bv5 Z.1.s.q.length cv5) Z.1.t))).set (M5 + 1) (.cells true 1 [.slice Bf5 Z.2.frames.length cf5, .slice Bc5 Z.2.came.length cc5, .bool Z.2.down, .int .i64 Z.2.ses]) := ⟨_, rfl⟩
  have F6 : Fr s6 s [] := by rw [hs6]; exact Fr.new (hT.free (by omega)) (Fr.new (hT.free (by omega)) (Fr.new (hT.free (by omega)) (Fr.new (hT.free (by omega)) F5)))
  have hS6 : Sub s s6 := fun i c hc => F6 i (by simp) c hc
  have T6 : Top (M5 + 2) s6 := by rw [hs6]; exact Top.set (Top.set T5.new.new (by omega)) (by omega)
  have f0 : At s6 N (.cells true 1 (lna last cur prop over base k (.slice A q.length cap) clock next owes)) := by rw [hs6]; exact at_
  have f1 : At s6 (M3) (.cells true 1 (lnl Y.1.h Y.1.s (.slice Bv Y.1.s.q.length cv) Y.1.t)) := by rw [hs6]; exact at_
  have f2 : At s6 (M3 + 1) (.cells true 1 [.slice Bf Y.2.frames.length cf, .slice Bc Y.2.came.length cc, .bool Y.2.down, .int .i64 Y.2.ses]) := by rw [hs6]; exact at_
  have f3 : At s6 M5 (.cells true 1 (lnl Z.1.h Z.1.s (.slice Bv5 Z.1.s.q.length cv5) Z.1.t)) := by rw [hs6]; exact at_
  have f4 : At s6 (M5 + 1) (.cells true 1 [.slice Bf5 Z.2.frames.length cf5, .slice Bc5 Z.2.came.length cc5, .bool Z.2.down, .int .i64 Z.2.ses]) := by rw [hs6]; exact At.hit
  have n5 : ∀ i, M5 ≤ i → b5 i = none := fun i hi => I5.sub.none (T5.none hi)
  have hb6 : Sub b5 s6 := by rw [hs6]; exact (((I5.sub.setR (n5 _ (by omega))).setR (n5 _ (by omega))).setR (n5 _ (by omega))).setR (n5 _ (by omega))
  have c11 := mayL' (s := s6) (last := last) (cur := cur) (prop := prop) (over := over) (base := base) (sent := k) (clock := clock) (next := next) (owes := owes) (h.sub datQ hS6) (by omega)
  rw [decide_eq_true hm] at c11
  have c28 := flush28' (last := last) (cur := cur) (prop := prop) (over := over) (base := base) (sent := k) (clock := clock) (next := next) (owes := owes) hb6 (h.sub datQ (ho4.trans I5.old)) hm
  rw [← hZ] at c28

  (repeat' (first | (apply Ab.K.ev; exact ev_) | (apply Ab.K.aops; first | (apply Xg.s; constructor) | apply Ab.S.guardG) | (apply Ab.K.aop; first | (first | (apply Ab.O.allocA M5; (case hid => exact T5.free (Nat.le_refl _)); (case hp => rfl)) | (apply Ab.O.allocA (M5 + 1); (case hid => exact T5.new.free (Nat.le_refl _)); (case hp => rfl)) | (apply Ab.O.callFE; (case ha => exact evs_); (case hc => first | exact c28 | (rw [← hs6]; exact c28)))) | (apply Og.s; constructor)) | (apply Ab.K.gk; first | (apply Xg.s; constructor) | (apply Ab.gY; case hw => assumption) | (apply Ab.gNT; case hw => assumption) | (apply Ab.gNF; case hw => assumption) | ((first | apply Ab.gD | apply Ab.gDN); all_goals (intro _ _; (first | contradiction | (exfalso; omega) | skip)))) | (apply Ab.K.awp; first | (apply Xg.s; constructor)) | (apply Ab.K.at_; exact at_) | (apply Ab.K.acall; first | assumption | first | (rw [← hs6]; exact c11) | exact c11) | (apply Ab.Rg.mk; omega) | (apply Ab.Lt.mk; first | decide | (simp; done) | (simp; omega) | fail) | (apply Ab.Get.mk; first | rfl | fail) | (apply Ab.Nm.mk; first | exact nrm_) | (apply Xg.s; constructor) | (apply Ab.asm; assumption) | rfl | infer_instance | decide))
  rintro r s7 ⟨b7, I7, c7, d7, rfl, ⟨v7, rfl, hv7⟩, ⟨vf7, vc7, rfl, hf7, hc7⟩⟩
  clear c28 c11
  obtain ⟨Bv7, cv7, rfl, _⟩ := hv7.isl
  obtain ⟨Bf7, cf7, rfl, _⟩ := hf7.isl
  obtain ⟨Bc7, cc7, rfl, _⟩ := hc7.isl
  obtain ⟨M7, hM7, T7⟩ := I7.fin _ T6
  have g0 := I7.kp.at_ f0
  have g1 := I7.kp.at_ f1
  have g2 := I7.kp.at_ f2
  have g3 := I7.kp.at_ f3
  have g4 := I7.kp.at_ f4
  have F7 : Fr s7 s [] := fun i hi c hc => I7.kp i c (F6 i hi c hc)
  obtain ⟨s8, hs8⟩ : ∃ s8 : AHeap, s8 = (((s7.set M7 (.cells true 1 ln00)).set (M7 + 1) (.cells true 1 nw00)).set M7 (.cells true 1 (lnl Z.1.h Z.1.s (.slice Bv7 Z.1.s.q.length cv7) Z.1.t))).set (M7 + 1) (.cells true 1 [.slice Bf7 Z.2.frames.length cf7, .slice Bc7 Z.2.came.length cc7, .bool Z.2.down, .int .i64 Z.2.ses]) := ⟨_, rfl⟩
  have F8 : Fr s8 s [] := by rw [hs8]; exact Fr.new (hT.free (by omega)) (Fr.new (hT.free (by omega)) (Fr.new (hT.free (by omega)) (Fr.new (hT.free (by omega)) F7)))
  have T8 : Top (M7 + 2) s8 := by rw [hs8]; exact Top.set (Top.set T7.new.new (by omega)) (by omega)
  have h0 : At s8 N (.cells true 1 (lna last cur prop over base k (.slice A q.length cap) clock next owes)) := by rw [hs8]; exact at_
  have h1 : At s8 (M3) (.cells true 1 (lnl Y.1.h Y.1.s (.slice Bv Y.1.s.q.length cv) Y.1.t)) := by rw [hs8]; exact at_
  have h2 : At s8 (M3 + 1) (.cells true 1 [.slice Bf Y.2.frames.length cf, .slice Bc Y.2.came.length cc, .bool Y.2.down, .int .i64 Y.2.ses]) := by rw [hs8]; exact at_
  have h3 : At s8 M5 (.cells true 1 (lnl Z.1.h Z.1.s (.slice Bv5 Z.1.s.q.length cv5) Z.1.t)) := by rw [hs8]; exact at_
  have h4 : At s8 (M5 + 1) (.cells true 1 [.slice Bf5 Z.2.frames.length cf5, .slice Bc5 Z.2.came.length cc5, .bool Z.2.down, .int .i64 Z.2.ses]) := by rw [hs8]; exact at_
  have h5 : At s8 M7 (.cells true 1 (lnl Z.1.h Z.1.s (.slice Bv7 Z.1.s.q.length cv7) Z.1.t)) := by rw [hs8]; exact at_
  have h6 : At s8 (M7 + 1) (.cells true 1 [.slice Bf7 Z.2.frames.length cf7, .slice Bc7 Z.2.came.length cc7, .bool Z.2.down, .int .i64 Z.2.ses]) := by rw [hs8]; exact At.hit
  have n7 : ∀ i, M7 ≤ i → b7 i = none := fun i hi => I7.sub.none (T7.none hi)
  have hb8 : Sub b7 s8 := by rw [hs8]; exact (((I7.sub.setR (n7 _ (by omega))).setR (n7 _ (by omega))).setR (n7 _ (by omega))).setR (n7 _ (by omega))
  have ca := same17 (s := s8) (x := Z.1) (y := Z.1) ⟨_, rfl, hv5.sub datQ (I7.old.trans hb8)⟩ ⟨_, rfl, hv7.sub datQ hb8⟩ (by omega) (by omega)
  have cn := news18 (s := s8) (x := Z.2) (y := Z.2) ⟨_, _, rfl, hf5.sub datF (I7.old.trans hb8), hc5.sub datQ (I7.old.trans hb8)⟩ ⟨_, _, rfl, hf7.sub datF hb8, hc7.sub datQ hb8⟩ (by omega) (by omega) (by omega) (by omega)
  rw [decide_eq_true rfl] at ca cn
  have c29 := tick29' (last := last) (cur := cur) (prop := prop) (over := over) (base := base) (sent := k) (clock := clock) (next := next) (owes := owes) hb8 (h.sub datQ ((ho4.trans I5.old).trans I7.old)) hm
  rw [← hY] at c29

  (repeat' (first | (apply Ab.K.ev; exact ev_) | (apply Ab.K.aops; first | (apply Xg.s; constructor) | apply Ab.S.guardG) | (apply Ab.K.aop; first | (first | (apply Ab.O.allocA M7; (case hid => exact T7.free (Nat.le_refl _)); (case hp => rfl)) | (apply Ab.O.allocA (M7 + 1); (case hid => exact T7.new.free (Nat.le_refl _)); (case hp => rfl)) | (apply Ab.O.callFE; (case ha => exact evs_); (case hc => first | exact c29 | (rw [← hs8]; exact c29)))) | (apply Og.s; constructor)) | (apply Ab.K.gk; first | (apply Xg.s; constructor) | (apply Ab.gY; case hw => assumption) | (apply Ab.gNT; case hw => assumption) | (apply Ab.gNF; case hw => assumption) | ((first | apply Ab.gD | apply Ab.gDN); all_goals (intro _ _; (first | contradiction | (exfalso; omega) | skip)))) | (apply Ab.K.awp; first | (apply Xg.s; constructor)) | (apply Ab.K.at_; exact at_) | (apply Ab.K.acall; first | assumption | first | (rw [← hs8]; exact ca) | exact ca | exact cn | (rw [← hs8]; exact cn) | exact c12 _) | (apply Ab.Rg.mk; omega) | (apply Ab.Lt.mk; first | decide | (simp; done) | (simp; omega) | fail) | (apply Ab.Get.mk; first | rfl | fail) | (apply Ab.Nm.mk; first | exact nrm_) | (apply Xg.s; constructor) | (apply Ab.asm; assumption) | rfl | infer_instance | decide))
  rintro r s9 ⟨b9, I9, c9', d9, rfl, ⟨v9, rfl, hv9⟩, ⟨vf9, vc9, rfl, hf9, hc9⟩⟩
  clear c29 ca cn hY hZ
  obtain ⟨Bv9, cv9, rfl, _⟩ := hv9.isl
  obtain ⟨Bf9, cf9, rfl, _⟩ := hf9.isl
  obtain ⟨Bc9, cc9, rfl, _⟩ := hc9.isl
  obtain ⟨M9, hM9, T9⟩ := I9.fin _ T8
  have i1 := I9.kp.at_ h1
  have i2 := I9.kp.at_ h2
  have i5 := I9.kp.at_ h5
  have i6 := I9.kp.at_ h6
  have F9 : Fr s9 s [] := fun i hi c hc => I9.kp i c (F8 i hi c hc)
  obtain ⟨s10, hs10⟩ : ∃ s10 : AHeap, s10 = (s9.set M7 (.cells true 1 (lnl Y.1.h Y.1.s (.slice Bv9 Y.1.s.q.length cv9) Y.1.t))).set (M7 + 1) (.cells true 1 [.slice Bf9 Y.2.frames.length cf9, .slice Bc9 Y.2.came.length cc9, .bool Y.2.down, .int .i64 Y.2.ses]) := ⟨_, rfl⟩
  have F10 : Fr s10 s [] := by rw [hs10]; exact Fr.new (hT.free (by omega)) (Fr.new (hT.free (by omega)) F9)
  have j1 : At s10 (M3) (.cells true 1 (lnl Y.1.h Y.1.s (.slice Bv Y.1.s.q.length cv) Y.1.t)) := by rw [hs10]; exact at_
  have j2 : At s10 (M3 + 1) (.cells true 1 [.slice Bf Y.2.frames.length cf, .slice Bc Y.2.came.length cc, .bool Y.2.down, .int .i64 Y.2.ses]) := by rw [hs10]; exact at_
  have j5 : At s10 M7 (.cells true 1 (lnl Y.1.h Y.1.s (.slice Bv9 Y.1.s.q.length cv9) Y.1.t)) := by rw [hs10]; exact at_
  have j6 : At s10 (M7 + 1) (.cells true 1 [.slice Bf9 Y.2.frames.length cf9, .slice Bc9 Y.2.came.length cc9, .bool Y.2.down, .int .i64 Y.2.ses]) := by rw [hs10]; exact At.hit
  have n9 : ∀ i, i = M7 ∨ i = M7 + 1 → b9 i = none := fun i hi => by
    refine (Prv.call (s0 := fun _ => none) ⟨rfl, n7 i (by omega), ?_⟩ I9).b
    rcases hi with rfl | rfl
    · rw [h5.eq]; rfl
    · rw [h6.eq]; rfl
  have hb10 : Sub b9 s10 := by rw [hs10]; exact (I9.sub.setR (n9 _ (.inl rfl))).setR (n9 _ (.inr rfl))
  have q5 := (I5.old.trans (I7.old.trans I9.old)).trans hb10
  have ce := same17 (s := s10) (x := Y.1) (y := Y.1) ⟨_, rfl, hv.sub datQ q5⟩ ⟨_, rfl, hv9.sub datQ hb10⟩ (by omega) (by omega)
  have cf := news18 (s := s10) (x := Y.2) (y := Y.2) ⟨_, _, rfl, hf.sub datF q5, hc.sub datQ q5⟩ ⟨_, _, rfl, hf9.sub datF hb10, hc9.sub datQ hb10⟩ (by omega) (by omega) (by omega) (by omega)
  rw [decide_eq_true rfl] at ce cf

  (repeat' (first | (apply Ab.K.ev; exact ev_) | (apply Ab.K.aops; first | (apply Xg.s; constructor) | apply Ab.S.guardG) | (apply Ab.K.aop; first | (apply Og.s; constructor)) | (apply Ab.K.gk; first | (apply Xg.s; constructor) | (apply Ab.gY; case hw => assumption) | (apply Ab.gNT; case hw => assumption) | (apply Ab.gNF; case hw => assumption) | ((first | apply Ab.gD | apply Ab.gDN); all_goals (intro _ _; (first | contradiction | (exfalso; omega) | skip)))) | (apply Ab.K.awp; first | (apply Xg.s; constructor)) | (apply Ab.K.at_; exact at_) | (apply Ab.K.acall; first | assumption | first | exact ce | exact cf | (rw [← hs10]; exact ce) | (rw [← hs10]; exact cf) | exact c9 _) | (apply Ab.Rg.mk; omega) | (apply Ab.Lt.mk; first | decide | (simp; done) | (simp; omega) | fail) | (apply Ab.Get.mk; first | rfl | fail) | (apply Ab.Nm.mk; first | exact nrm_) | (apply Xg.s; constructor) | (apply Ab.asm; assumption) | rfl | infer_instance | decide))
  all_goals ((first | apply RetQ.ret | apply RetQ.normal); (case he => exact evr_); (case hg => rfl))
  all_goals first | rfl | exact Keeps.fr F10 (plR.nm rfl)
end Go.Proofs.Ytoiplbackllgfaa
