/- texts of this claim, one behind the other: LU, LY. -/
import Derived.Test.YtoiplbackllgfaaM16

/- lines: what is refused; the small question. -/
namespace Go.Proofs.Ytoiplbackllgfaa
set_option linter.unusedVariables false
set_option linter.unusedSimpArgs false
set_option linter.unusedSectionVars false
open Go.RowKit Ab HP
attribute [local irreducible] AOps AOpsD AOpsP QStep NX AOp AWp put nargs AHeap.set At Free ACall ACallE thenQ blockQ roundQ RetQ RetE Src Gr
set_option maxRecDepth 100000 in
set_option maxHeartbeats 4000000 in
theorem hearBad {s : AHeap} {last cur prop base sent clock next : Int} {over owes : Bool} {v : Value} {q : List (List Int)} {kind ses seq ack lim : Int} {w : Value} {p : List Int} (h : Qt s v q) (hq : q.length ≤ 1000000000) (hp : Bt s w p) (hx : ¬ (Ln.May ⟨⟨last, cur, prop, over⟩, ⟨base, sent, q, clock⟩, ⟨next, owes⟩⟩ ∧ (1 ≤ lim ∧ lim ≤ 2147483647) ∧ Fm.May ⟨kind, ses, seq, ack, p⟩)) :
    ACall Try.prog 10 [.agg (lna last cur prop over base sent v clock next owes).toArray, .agg #[.int .i64 kind, .int .i64 ses, .int .i64 seq, .int .i64 ack, w], .int .i64 lim] s (.tuple #[.agg ln00.toArray, .agg nw00.toArray, .int .i64 1]) s := by
  refine ACall.make Try.func10 rfl (by kernel_rfl) (by decide) rfl (fun N hN0 => ?_)
  have hT : Top N s := hN0
  obtain ⟨A, cap, rfl, hcap⟩ := h.isl
  obtain ⟨A2, cap2, rfl, hcap2⟩ := hp.isl
  obtain ⟨s1, hs1⟩ : ∃ s1 : AHeap, s1 = (((s.set N (.cells true 1 (lna last cur prop over base sent (.slice A q.length cap) clock next owes))).set (N + 1) (.cells true 1 [.int .i64 kind, .int .i64 ses, .int .i64 seq, .int .i64 ack, .slice A2 p.length cap2])).set (N + 2) (.cells true 1 ln00)).set (N + 3) (.cells true 1 nw00) := ⟨_, rfl⟩
  have F0 : Fr s1 s [] := by rw [hs1]; exact Fr.new (hT.free (by omega)) (Fr.new (hT.free (by omega)) (Fr.new (hT.free (by omega)) (Fr.new (hT.free (Nat.le_refl _)) (Fr.refl _ _))))
  have F1 : Fr ((s1.set (N + 2) (.cells true 1 ln00)).set (N + 3) (.cells true 1 nw00)) s [] := Fr.new (hT.free (by omega)) (Fr.new (hT.free (by omega)) F0)
  have hS : Sub s s1 := fun i c hc => F0 i (by simp) c hc
  have aN : At s1 N (.cells true 1 (lna last cur prop over base sent (.slice A q.length cap) clock next owes)) := by rw [hs1]; exact at_
  have aN1 : At s1 (N + 1) (.cells true 1 [.int .i64 kind, .int .i64 ses, .int .i64 seq, .int .i64 ack, .slice A2 p.length cap2]) := by rw [hs1]; exact at_
  have aN2 : At s1 (N + 2) (.cells true 1 ln00) := by rw [hs1]; exact at_
  have aN3 : At s1 (N + 3) (.cells true 1 nw00) := by rw [hs1]; exact At.hit
  have c14 := checkL' (s := s1) (last := last) (cur := cur) (prop := prop) (over := over) (base := base) (sent := sent) (clock := clock) (next := next) (owes := owes) (h.sub datQ hS) hq
  have c32 := checkF' (s := s1) (kind := kind) (ses := ses) (seq := seq) (ack := ack) (hp.bt hS)
  have c31 := count_dec (s := s1) (n := lim)

  by_cases hm : Ln.May ⟨⟨last, cur, prop, over⟩, ⟨base, sent, q, clock⟩, ⟨next, owes⟩⟩
  case neg =>
    rw [if_neg hm] at c14
    (repeat' (first | (apply Ab.K.ev; exact ev_) | (apply Ab.K.aops; first | (apply Xg.s; constructor) | apply Ab.S.guardG) | (apply Ab.K.aop; first | (first | (apply Ab.O.boxA N; (case hx => exact ev_); (case hid => exact frees_)) | (apply Ab.O.boxA (N + 1); (case hx => exact ev_); (case hid => exact frees_)) | (apply Ab.O.allocA (N + 2); (case hid => exact frees_); (case hp => rfl)) | (apply Ab.O.allocA (N + 3); (case hid => exact frees_); (case hp => rfl))) | (apply Og.s; constructor)) | (apply Ab.K.gk; first | (apply Xg.s; constructor) | (apply Ab.gY; case hw => assumption) | (apply Ab.gNT; case hw => assumption) | (apply Ab.gNF; case hw => assumption) | ((first | apply Ab.gD | apply Ab.gDN); all_goals (intro _ _; (first | contradiction | (exfalso; omega) | skip)))) | (apply Ab.K.awp; first | (apply Xg.s; constructor)) | (apply Ab.K.at_; exact at_) | (apply Ab.K.acall; first | assumption | first | exact c32 | exact c31 | (rw [← hs1]; exact c14)) | (apply Ab.Rg.mk; omega) | (apply Ab.Lt.mk; first | decide | (simp; done) | (simp; omega) | fail) | (apply Ab.Get.mk; first | rfl | fail) | (apply Ab.Nm.mk; first | exact nrm_) | (apply Xg.s; constructor) | (apply Ab.asm; assumption) | rfl | infer_instance | decide))
    all_goals ((first | apply RetQ.ret | apply RetQ.normal); (case he => exact evr_); (case hg => rfl))
    all_goals first | rfl | exact Keeps.fr F1 (plR.nm rfl)
  rw [if_pos hm] at c14
  by_cases hli : 1 ≤ lim ∧ lim ≤ 2147483647
  case neg =>
    rw [decide_eq_false hli] at c31
    (repeat' (first | (apply Ab.K.ev; exact ev_) | (apply Ab.K.aops; first | (apply Xg.s; constructor) | apply Ab.S.guardG) | (apply Ab.K.aop; first | (first | (apply Ab.O.boxA N; (case hx => exact ev_); (case hid => exact frees_)) | (apply Ab.O.boxA (N + 1); (case hx => exact ev_); (case hid => exact frees_)) | (apply Ab.O.allocA (N + 2); (case hid => exact frees_); (case hp => rfl)) | (apply Ab.O.allocA (N + 3); (case hid => exact frees_); (case hp => rfl))) | (apply Og.s; constructor)) | (apply Ab.K.gk; first | (apply Xg.s; constructor) | (apply Ab.gY; case hw => assumption) | (apply Ab.gNT; case hw => assumption) | (apply Ab.gNF; case hw => assumption) | ((first | apply Ab.gD | apply Ab.gDN); all_goals (intro _ _; (first | contradiction | (exfalso; omega) | skip)))) | (apply Ab.K.awp; first | (apply Xg.s; constructor)) | (apply Ab.K.at_; exact at_) | (apply Ab.K.acall; first | assumption | first | exact c32 | exact c31 | (rw [← hs1]; exact c14)) | (apply Ab.Rg.mk; omega) | (apply Ab.Lt.mk; first | decide | (simp; done) | (simp; omega) | fail) | (apply Ab.Get.mk; first | rfl | fail) | (apply Ab.Nm.mk; first | exact nrm_) | (apply Xg.s; constructor) | (apply Ab.asm; assumption) | rfl | infer_instance | decide))
    all_goals ((first | apply RetQ.ret | apply RetQ.normal); (case he => exact evr_); (case hg => rfl))
    all_goals first | rfl | exact Keeps.fr F1 (plR.nm rfl)
  rw [decide_eq_true hli] at c31
  rw [if_neg (fun e => hx ⟨hm, hli, e⟩)] at c32
  (repeat' (first | (apply Ab.K.ev; exact ev_) | (apply Ab.K.aops; first | (apply Xg.s; constructor) | apply Ab.S.guardG) | (apply Ab.K.aop; first | (first | (apply Ab.O.boxA N; (case hx => exact ev_); (case hid => exact frees_)) | (apply Ab.O.boxA (N + 1); (case hx => exact ev_); (case hid => exact frees_)) | (apply Ab.O.allocA (N + 2); (case hid => exact frees_); (case hp => rfl)) | (apply Ab.O.allocA (N + 3); (case hid => exact frees_); (case hp => rfl))) | (apply Og.s; constructor)) | (apply Ab.K.gk; first | (apply Xg.s; constructor) | (apply Ab.gY; case hw => assumption) | (apply Ab.gNT; case hw => assumption) | (apply Ab.gNF; case hw => assumption) | ((first | apply Ab.gD | apply Ab.gDN); all_goals (intro _ _; (first | contradiction | (exfalso; omega) | skip)))) | (apply Ab.K.awp; first | (apply Xg.s; constructor)) | (apply Ab.K.at_; exact at_) | (apply Ab.K.acall; first | assumption | first | exact c32 | exact c31 | (rw [← hs1]; exact c14)) | (apply Ab.Rg.mk; omega) | (apply Ab.Lt.mk; first | decide | (simp; done) | (simp; omega) | fail) | (apply Ab.Get.mk; first | rfl | fail) | (apply Ab.Nm.mk; first | exact nrm_) | (apply Xg.s; constructor) | (apply Ab.asm; assumption) | rfl | infer_instance | decide))
  all_goals ((first | apply RetQ.ret | apply RetQ.normal); (case he => exact evr_); (case hg => rfl))
  all_goals first | rfl | exact Keeps.fr F1 (plR.nm rfl)
/-- Is nothing told but an error? -/
theorem bad15 {s : AHeap} : ACall Try.prog 15 [.agg ln00.toArray, .agg nw00.toArray, .int .i64 1] s (.bool true) s := by
  refine ACall.make Try.func15 rfl (by kernel_rfl) (by decide) rfl (fun N hN0 => ?_)
  have hT : Top N s := hN0
  have c17 : ∀ s : AHeap, ACall Try.prog 17 [.agg ln00.toArray, .agg ln00.toArray] s (.bool true) s := fun s => by
    have := same17 (s := s) (x := ⟨⟨0, 0, 0, false⟩, sd0, tk0⟩) (y := ⟨⟨0, 0, 0, false⟩, sd0, tk0⟩) (RL.h _ s) (RL.h _ s) (by simp [sd0]) (by simp [sd0])
    rw [decide_eq_true rfl] at this; exact this
  have c18 : ∀ s : AHeap, ACall Try.prog 18 [.agg nw00.toArray, .agg nw00.toArray] s (.bool true) s := fun s => by
    have := news18 (s := s) (RW.zero s) (RW.zero s) (by simp [nw0]) (by simp [nw0]) (by simp [nw0]) (by simp [nw0])
    rw [decide_eq_true rfl] at this; exact this
  (repeat' (first | (apply Ab.K.ev; exact ev_) | (apply Ab.K.aops; first | (apply Xg.s; constructor) | apply Ab.S.guardG) | (apply Ab.K.aop; first | (first | (apply Ab.O.boxA N; (case hx => exact ev_); (case hid => exact frees_)) | (apply Ab.O.boxA (N + 1); (case hx => exact ev_); (case hid => exact frees_))) | (apply Og.s; constructor)) | (apply Ab.K.gk; first | (apply Xg.s; constructor) | (apply Ab.gY; case hw => assumption) | (apply Ab.gNT; case hw => assumption) | (apply Ab.gNF; case hw => assumption) | ((first | apply Ab.gD | apply Ab.gDN); all_goals (intro _ _; (first | contradiction | (exfalso; omega) | skip)))) | (apply Ab.K.awp; first | (apply Xg.s; constructor)) | (apply Ab.K.at_; exact at_) | (apply Ab.K.acall; first | assumption | first | exact c17 _ | exact c18 _) | (apply Ab.Rg.mk; omega) | (apply Ab.Lt.mk; first | decide | (simp; done) | (simp; omega) | fail) | (apply Ab.Get.mk; first | rfl | fail) | (apply Ab.Nm.mk; first | exact nrm_) | (apply Xg.s; constructor) | (apply Ab.asm; assumption) | rfl | infer_instance | decide))
  all_goals ((first | apply RetQ.ret | apply RetQ.normal); (case he => exact evr_); (case hg => rfl))
  all_goals first | rfl | (apply Keeps.fr; (case h => exact fr_); (case hv => exact plR.nm rfl))
set_option maxHeartbeats 4000000 in
theorem awake9 {s : AHeap} : ACall Try.prog 9 [] s (.bool true) s := by
  refine ACall.make Try.func9 rfl (by kernel_rfl) (by decide) rfl (fun N hN0 => ?_)
  have hT : Top N s := hN0
  have hz : Sub (fun _ => none) s := fun i c h => by cases h
  obtain ⟨s1, hs1⟩ : ∃ s1 : AHeap, s1 = (((s.set N (.cells true 1 ln00)).set N (.cells true 1 (lna 3 3 0 false 0 0 (.slice none 0 0) 0 0 false))).set (N + 1) (.cells true 1 [.int .u8 120])).set (N + 1) (.cells false 1 [.int .u8 120]) := ⟨_, rfl⟩
  have hb : Sub (AHeap.set (fun _ => none) (N + 1) (.cells false 1 [.int .u8 120])) s1 := fun i c h => by
    by_cases e : i = N + 1
    · subst e; rw [AHeap.set_same] at h; rw [hs1, AHeap.set_same]; exact h
    · rw [AHeap.set_other _ _ e] at h; cases h
  have T1 : Top (N + 2) s1 := by rw [hs1]; exact ((((hT.new.set (by omega)).new).set (by omega)))
  have F1 : Fr s1 s [] := by rw [hs1]; exact Fr.new (hT.free (by omega)) (Fr.new (hT.free (by omega)) (Fr.new (hT.free (by omega)) (Fr.new (hT.free (Nat.le_refl _)) (Fr.refl _ _))))
  have aN : At s1 N (.cells true 1 (lna 3 3 0 false 0 0 (.slice none 0 0) 0 0 false)) := by rw [hs1]; exact at_
  have hp : Bt (AHeap.set (fun _ => none) (N + 1) (.cells false 1 [.int .u8 120])) (.slice (some ⟨N + 1, 0, none⟩) 1 1) [120] := .blk At.hit rfl (Nat.le_refl _) (RB.of (l := [120]) (by intro x hx; rw [List.mem_singleton.1 hx]; omega))
  have hm : Ln.May ⟨⟨3, 3, 0, false⟩, ⟨0, 0, [], 0⟩, ⟨0, false⟩⟩ := by decide
  have c1 := hear10' (lim := 9) hb (.nil : Qt _ (.slice none 0 0) []) hp hm (show Fm.May ⟨3, 3, 0, 0, [120]⟩ by decide) (by omega)
  (repeat' (first | (apply Ab.K.ev; exact ev_) | (apply Ab.K.aops; first | (apply Xg.s; constructor) | apply Ab.S.guardG) | (apply Ab.K.aop; first | (first | (apply Ab.O.allocA N; (case hid => exact hT.free (Nat.le_refl _)); (case hp => rfl)) | (apply Ab.O.build1 (N + 1); (case hx => exact ev_); (case hv => exact ⟨rfl, rfl⟩); (case hz => exact ⟨rfl, rfl⟩); (case hid => exact free_)) | (apply Ab.O.markK; (case hx => exact ev_); (case hs => exact at_); (case hn => decide)) | (apply Ab.O.callFE; (case ha => exact evs_); (case hc => rw [← hs1]; exact c1))) | (apply Og.s; constructor)) | (apply Ab.K.gk; first | (apply Xg.s; constructor) | (apply Ab.gY; case hw => assumption) | (apply Ab.gNT; case hw => assumption) | (apply Ab.gNF; case hw => assumption) | ((first | apply Ab.gD | apply Ab.gDN); all_goals (intro _ _; (first | contradiction | (exfalso; omega) | skip)))) | (apply Ab.K.awp; first | (apply Xg.s; constructor)) | (apply Ab.K.at_; exact at_) | (apply Ab.K.acall; first | assumption | fail) | (apply Ab.Rg.mk; omega) | (apply Ab.Lt.mk; first | decide | (simp; done) | (simp; omega) | fail) | (apply Ab.Get.mk; first | rfl | fail) | (apply Ab.Nm.mk; first | exact nrm_) | (apply Xg.s; constructor) | (apply Ab.asm; assumption) | rfl | infer_instance | decide))
  rintro r s2 ⟨b2, I2, cc, dd, rfl, ⟨v2, rfl, hv2⟩, ⟨vf2, vc2, rfl, hf2, hc2⟩⟩
  clear c1
  have e1 : (lhear ⟨⟨3, 3, 0, false⟩, ⟨0, 0, [], 0⟩, ⟨0, false⟩⟩ ⟨3, 3, 0, 0, [120]⟩ 9).2.came = [[120]] := by decide
  rw [e1] at hc2
  obtain ⟨o, off, c, sp, rw', cs, u, rfl, _, ha, hg, hu⟩ := hc2.qelt (i := 0) rfl
  obtain ⟨Bf, cf, rfl, _⟩ := hf2.isl
  obtain ⟨Bv, cv, rfl, _⟩ := hv2.isl
  obtain ⟨M, hM, T2⟩ := I2.fin _ T1
  have aN2 := I2.kp.at_ aN
  have ao := I2.sub.at_ ha
  have hoM : o < M := T2.lt ao
  obtain ⟨s3, hs3⟩ : ∃ s3 : AHeap, s3 = (((((s2.set M (.cells true 1 ln00)).set (M + 1) (.cells true 1 nw00)).set M (.cells true 1 (lnl (lhear ⟨⟨3, 3, 0, false⟩, ⟨0, 0, [], 0⟩, ⟨0, false⟩⟩ ⟨3, 3, 0, 0, [120]⟩ 9).1.h (lhear ⟨⟨3, 3, 0, false⟩, ⟨0, 0, [], 0⟩, ⟨0, false⟩⟩ ⟨3, 3, 0, 0, [120]⟩ 9).1.s (.slice Bv (lhear ⟨⟨3, 3, 0, false⟩, ⟨0, 0, [], 0⟩, ⟨0, false⟩⟩ ⟨3, 3, 0, 0, [120]⟩ 9).1.s.q.length cv) (lhear ⟨⟨3, 3, 0, false⟩, ⟨0, 0, [], 0⟩, ⟨0, false⟩⟩ ⟨3, 3, 0, 0, [120]⟩ 9).1.t))).set (M + 1) (.cells true 1 [.slice Bf (lhear ⟨⟨3, 3, 0, false⟩, ⟨0, 0, [], 0⟩, ⟨0, false⟩⟩ ⟨3, 3, 0, 0, [120]⟩ 9).2.frames.length cf, .slice (some ⟨o, off, sp⟩) ([[120]] : List (List Int)).length c, .bool (lhear ⟨⟨3, 3, 0, false⟩, ⟨0, 0, [], 0⟩, ⟨0, false⟩⟩ ⟨3, 3, 0, 0, [120]⟩ 9).2.down, .int .i64 (lhear ⟨⟨3, 3, 0, false⟩, ⟨0, 0, [], 0⟩, ⟨0, false⟩⟩ ⟨3, 3, 0, 0, [120]⟩ 9).2.ses])).set (M + 2) (.cells true 1 [.int .u8 120])).set (M + 2) (.cells false 1 [.int .u8 120]) := ⟨_, rfl⟩
  have hb3 : Sub (AHeap.set (fun _ => none) (M + 2) (.cells false 1 [.int .u8 120])) s3 := fun i c h => by
    by_cases e : i = M + 2
    · subst e; rw [AHeap.set_same] at h; rw [hs3, AHeap.set_same]; exact h
    · rw [AHeap.set_other _ _ e] at h; cases h
  have T3 : Top (M + 3) s3 := by rw [hs3]; exact (Top.new (Top.set (Top.set T2.new.new (by omega)) (by omega))).set (by omega)
  have F2 : Fr s2 s [] := fun i hi c hc => I2.kp i c (F1 i hi c hc)
  have F3 : Fr s3 s [] := by
    rw [hs3]
    exact Fr.new (hT.free (by omega)) (Fr.new (hT.free (by omega)) (Fr.new (hT.free (by omega)) (Fr.new (hT.free (by omega)) (Fr.new (hT.free (by omega)) (Fr.new (hT.free (by omega)) F2)))))
  have aN3 : At s3 N (.cells true 1 (lna 3 3 0 false 0 0 (.slice none 0 0) 0 0 false)) := by rw [hs3]; exact at_
  have ao3 : At s3 o (.cells rw' 1 cs) := by rw [hs3]; exact at_
  have aM3 : At s3 (M + 1) (.cells true 1 [.slice Bf (lhear ⟨⟨3, 3, 0, false⟩, ⟨0, 0, [], 0⟩, ⟨0, false⟩⟩ ⟨3, 3, 0, 0, [120]⟩ 9).2.frames.length cf, .slice (some ⟨o, off, sp⟩) ([[120]] : List (List Int)).length c, .bool (lhear ⟨⟨3, 3, 0, false⟩, ⟨0, 0, [], 0⟩, ⟨0, false⟩⟩ ⟨3, 3, 0, 0, [120]⟩ 9).2.down, .int .i64 (lhear ⟨⟨3, 3, 0, false⟩, ⟨0, 0, [], 0⟩, ⟨0, false⟩⟩ ⟨3, 3, 0, 0, [120]⟩ 9).2.ses]) := by rw [hs3]; exact at_
  have hp3 : Bt (AHeap.set (fun _ => none) (M + 2) (.cells false 1 [.int .u8 120])) (.slice (some ⟨M + 2, 0, none⟩) 1 1) [120] := .blk At.hit rfl (Nat.le_refl _) (RB.of (l := [120]) (by intro x hx; rw [List.mem_singleton.1 hx]; omega))
  have hm3 : Ln.May ⟨⟨3, 3, 0, false⟩, ⟨0, 0, [], 0⟩, ⟨0, false⟩⟩ := by decide
  have c2 := hear10' (lim := 9) hb3 (.nil : Qt _ (.slice none 0 0) []) hp3 hm3 (show Fm.May ⟨3, 2, 0, 0, [120]⟩ by decide) (by omega)
  have hu3 : Bt s3 u [120] := hu.bt (fun i c hc => by
    have h2 := I2.sub i c hc
    rw [hs3, AHeap.set_set]
    have hi : i < M := T2.lt (At.var h2)
    rw [AHeap.set_other _ _ (by omega), AHeap.set_other _ _ (by omega), AHeap.set_other _ _ (by omega), AHeap.set_other _ _ (by omega), AHeap.set_other _ _ (by omega)]
    exact h2)
  (repeat' (first | (apply Ab.K.ev; exact ev_) | (apply Ab.K.aops; first | (apply Xg.s; constructor) | apply Ab.S.guardG) | (apply Ab.K.aop; first | (first | (apply Ab.O.allocA M; (case hid => exact T2.free (Nat.le_refl _)); (case hp => rfl)) | (apply Ab.O.allocA (M + 1); (case hid => exact T2.new.free (Nat.le_refl _)); (case hp => rfl)) | (apply Ab.O.build1 (M + 2); (case hx => exact ev_); (case hv => exact ⟨rfl, rfl⟩); (case hz => exact ⟨rfl, rfl⟩); (case hid => exact free_)) | (apply Ab.O.markK; (case hx => exact ev_); (case hs => exact at_); (case hn => decide)) | (apply Ab.O.callFE; (case ha => exact evs_); (case hc => rw [← hs3]; exact c2))) | (apply Og.s; constructor)) | (apply Ab.K.gk; first | (apply Xg.s; constructor) | (apply Ab.gY; case hw => assumption) | (apply Ab.gNT; case hw => assumption) | (apply Ab.gNF; case hw => assumption) | ((first | apply Ab.gD | apply Ab.gDN); all_goals (intro _ _; (first | contradiction | (exfalso; omega) | skip)))) | (apply Ab.K.awp; first | (apply Xg.s; constructor)) | (apply Ab.K.at_; exact at_) | (apply Ab.K.acall; first | assumption | fail) | (apply Ab.Rg.mk; omega) | (apply Ab.Lt.mk; first | decide | (simp; done) | (simp; omega) | fail) | (apply Ab.Get.mk; first | rfl | fail) | (apply Ab.Nm.mk; first | exact nrm_) | (apply Xg.s; constructor) | (apply Ab.asm; assumption) | rfl | infer_instance | decide))
  rintro r s4 ⟨b4, I4, cc, dd, rfl, ⟨v4, rfl, hv4⟩, ⟨vf4, vc4, rfl, hf4, hc4⟩⟩
  clear c2
  have e2 : (lhear ⟨⟨3, 3, 0, false⟩, ⟨0, 0, [], 0⟩, ⟨0, false⟩⟩ ⟨3, 2, 0, 0, [120]⟩ 9).2.came = [] := by decide
  rw [e2] at hc4
  obtain ⟨Bc, c4, rfl, _⟩ := hc4.isl
  obtain ⟨Bf4, cf4, rfl, _⟩ := hf4.isl
  obtain ⟨Bv4, cv4, rfl, _⟩ := hv4.isl
  obtain ⟨M4, hM4, T4⟩ := I4.fin _ T3
  have ao4 := I4.kp.at_ ao3
  have aM4 := I4.kp.at_ aM3
  have F4 : Fr s4 s [] := fun i hi c hc => I4.kp i c (F3 i hi c hc)
  have hu4 := hu3.bt I4.kp
  have hg' : cs[off + ((0 : Int).toNat) * 1]? = some u := hg
  have hst : ∀ t' : AHeap, Sub s4 t' → Bt t' u [120] := fun t' h => hu4.bt h
  have hlit : decide ((strOf [120]).data.toList = (ByteArray.mk #[120]).data.toList) = true := by decide



  (repeat' (first | (apply Ab.K.ev; exact ev_) | (apply Ab.K.aops; first | (apply Xg.s; constructor) | apply Ab.S.guardG) | (apply Ab.K.aop; first | (first | (apply Ab.O.allocA M4; (case hid => exact T4.free (Nat.le_refl _)); (case hp => rfl)) | (apply Ab.O.allocA (M4 + 1); (case hid => exact T4.new.free (Nat.le_refl _)); (case hp => rfl)) | (apply Ab.O.strB; (case hx => exact ev_); (case h => exact hst _ (fun i c hc => by have hi : i < M4 := T4.lt (At.var hc); rw [AHeap.set_other _ _ (by omega), AHeap.set_other _ _ (by omega), AHeap.set_other _ _ (by omega), AHeap.set_other _ _ (by omega)]; exact hc)))) | (apply Ab.O.strEq; (case hx => exact ev_); (case hy => exact ev_); (case h => rw [hlit])) | (apply Og.s; constructor)) | (apply Ab.K.gk; first | (apply Xg.s; constructor) | (apply Ab.gY; case hw => assumption) | (apply Ab.gNT; case hw => assumption) | (apply Ab.gNF; case hw => assumption) | ((first | apply Ab.gD | apply Ab.gDN); all_goals (intro _ _; (first | contradiction | (exfalso; omega) | skip)))) | (apply Ab.K.awp; first | (apply Xg.s; constructor)) | (apply Ab.K.at_; exact at_) | (apply Ab.K.acall; first | assumption | fail) | (apply Ab.Rg.mk; (first | omega | decide)) | (apply Ab.Lt.mk; first | decide | (simp; done) | (simp; omega) | fail) | (apply Ab.Get.mk; first | rfl | (first | rfl | exact hg')) | (apply Ab.Nm.mk; first | exact nrm_) | (apply Xg.s; constructor) | (apply Ab.asm; assumption) | rfl | infer_instance | decide))
  all_goals ((first | apply RetQ.ret | apply RetQ.normal); (case he => exact evr_); (case hg => rfl))
  · rfl
  · exact Keeps.fr (Fr.new (hT.free (by omega)) (Fr.new (hT.free (by omega)) (Fr.new (hT.free (by omega)) (Fr.new (hT.free (by omega)) F4)))) (plR.nm rfl)
end Go.Proofs.Ytoiplbackllgfaa

/- lines: the law of LineStale, walked. -/
namespace Go.Proofs.Ytoiplbackllgfaa
set_option linter.unusedVariables false
set_option linter.unusedSimpArgs false
set_option linter.unusedSectionVars false
open Go.RowKit Ab HP
attribute [local irreducible] AOps AOpsD AOpsP QStep NX AOp AWp put nargs AHeap.set At Free ACall ACallE thenQ blockQ roundQ RetQ RetE Src Gr
theorem lhear_stale {l : Ln} {f : Fm} {lim : Int} (h1 : ¬ f.kind = 1) (h2 : ¬ f.kind = 2) (h3 : ¬ (l.h.cur ≠ 0 ∧ f.ses = l.h.cur)) : lhear l f lim = (l, nw0) := by
  unfold lhear; rw [if_neg h1, if_neg h2, if_neg h3]
set_option maxRecDepth 100000 in
set_option maxHeartbeats 8000000 in
theorem law4 {s : AHeap} {last cur prop base sent clock next : Int} {over owes : Bool} {v : Value} {q : List (List Int)} {vf : Value} {fs : List Fm} (h : Qt s v q) (hz : Sized q) (hf : Sl s 5 (RF s) vf fs) :
    ACall Try.prog 4 [.agg (lna last cur prop over base sent v clock next owes).toArray, vf] s (.bool true) s := by
  refine ACall.make Try.func4 rfl (by kernel_rfl) (by decide) rfl (fun N hN0 => ?_)
  have hT : Top N s := hN0
  obtain ⟨A, cap, rfl, hcap⟩ := h.isl
  obtain ⟨B, capf, rfl, hcapf⟩ := hf.isl
  obtain ⟨s1, hs1⟩ : ∃ s1 : AHeap, s1 = s.set N (.cells true 1 (lna last cur prop over base sent (.slice A q.length cap) clock next owes)) := ⟨_, rfl⟩
  have F1 : Fr s1 s [] := by rw [hs1]; exact Fr.new (hT.free (Nat.le_refl _)) (Fr.refl _ _)
  have hS : Sub s s1 := fun i c hc => F1 i (by simp) c hc
  have T1 : Top (N + 1) s1 := by rw [hs1]; exact hT.new
  have aN : At s1 N (.cells true 1 (lna last cur prop over base sent (.slice A q.length cap) clock next owes)) := by rw [hs1]; exact At.hit
  have cl := light8 (base := base) (sent := sent) (clock := clock) (h.sub datQ hS) hz
  have c9 : ∀ s : AHeap, ACall Try.prog 9 [] s (.bool true) s := fun s => awake9
  (repeat' (first | (apply Ab.K.ev; exact ev_) | (apply Ab.K.aops; first | (apply Xg.s; constructor) | (apply Ab.S.guardU; (case hd => rfl); (case hb => (exact ev_; done))) | apply Ab.S.guardG) | (apply Ab.K.aop; first | (first | (apply Ab.O.boxA N; (case hx => exact ev_); (case hid => exact frees_)) | (apply Ab.O.callFE; (case ha => exact evs_); (case hc => rw [← hs1]; exact cl))) | (apply Og.s; constructor)) | (apply Ab.K.gk; first | (apply Xg.s; constructor) | (apply Ab.gY; case hw => assumption) | (apply Ab.gNT; case hw => assumption) | (apply Ab.gNF; case hw => assumption) | ((first | apply Ab.gD | apply Ab.gDN); all_goals (intro _ _; (first | contradiction | (exfalso; omega) | skip)))) | (apply Ab.K.awp; first | (apply Xg.s; constructor)) | (apply Ab.K.at_; exact at_) | (apply Ab.K.acall; first | assumption | fail) | (apply Ab.Rg.mk; omega) | (apply Ab.Lt.mk; first | decide | (simp; done) | (simp; omega) | fail) | (apply Ab.Get.mk; first | rfl | fail) | (apply Ab.Nm.mk; first | exact nrm_) | (apply Xg.s; constructor) | (apply Ab.asm; assumption) | rfl | infer_instance | decide))
  rintro r s2 ⟨l, rfl, hl, rfl⟩
  clear cl

  cases l
  case false =>
    (repeat' (first | (apply Ab.K.ev; exact ev_) | (apply Ab.K.aops; first | (apply Xg.s; constructor) | (apply Ab.S.guardU; (case hd => rfl); (case hb => (exact ev_; done))) | apply Ab.S.guardG) | (apply Ab.K.aop; first | (apply Og.s; constructor)) | (apply Ab.K.gk; first | (apply Xg.s; constructor) | (apply Ab.gY; case hw => assumption) | (apply Ab.gNT; case hw => assumption) | (apply Ab.gNF; case hw => assumption) | ((first | apply Ab.gD | apply Ab.gDN); all_goals (intro _ _; (first | contradiction | (exfalso; omega) | skip)))) | (apply Ab.K.awp; first | (apply Xg.s; constructor)) | (apply Ab.K.at_; exact at_) | (apply Ab.K.acall; first | assumption | exact c9 _) | (apply Ab.Rg.mk; omega) | (apply Ab.Lt.mk; first | decide | (simp; done) | (simp; omega) | fail) | (apply Ab.Get.mk; first | rfl | fail) | (apply Ab.Nm.mk; first | exact nrm_) | (apply Xg.s; constructor) | (apply Ab.asm; assumption) | rfl | infer_instance | decide))
    all_goals ((first | apply RetQ.ret | apply RetQ.normal); (case he => exact evr_); (case hg => rfl))
    all_goals first | rfl | exact Keeps.fr F1 (plR.nm rfl)
  obtain ⟨hq, hql⟩ := hl rfl
  have c11 := mayL' (s := s2) (last := last) (cur := cur) (prop := prop) (over := over) (base := base) (sent := sent) (clock := clock) (next := next) (owes := owes) (h.sub datQ hS) (by omega)
  by_cases hm : Ln.May ⟨⟨last, cur, prop, over⟩, ⟨base, sent, q, clock⟩, ⟨next, owes⟩⟩
  case neg =>
    rw [decide_eq_false hm] at c11
    (repeat' (first | (apply Ab.K.ev; exact ev_) | (apply Ab.K.aops; first | (apply Xg.s; constructor) | (apply Ab.S.guardU; (case hd => rfl); (case hb => (exact ev_; done))) | apply Ab.S.guardG) | (apply Ab.K.aop; first | (apply Og.s; constructor)) | (apply Ab.K.gk; first | (apply Xg.s; constructor) | (apply Ab.gY; case hw => assumption) | (apply Ab.gNT; case hw => assumption) | (apply Ab.gNF; case hw => assumption) | ((first | apply Ab.gD | apply Ab.gDN); all_goals (intro _ _; (first | contradiction | (exfalso; omega) | skip)))) | (apply Ab.K.awp; first | (apply Xg.s; constructor)) | (apply Ab.K.at_; exact at_) | (apply Ab.K.acall; first | assumption | first | exact c9 _ | exact c11 | (rw [← hs1]; exact c11)) | (apply Ab.Rg.mk; omega) | (apply Ab.Lt.mk; first | decide | (simp; done) | (simp; omega) | fail) | (apply Ab.Get.mk; first | rfl | fail) | (apply Ab.Nm.mk; first | exact nrm_) | (apply Xg.s; constructor) | (apply Ab.asm; assumption) | rfl | infer_instance | decide))
    all_goals ((first | apply RetQ.ret | apply RetQ.normal); (case he => exact evr_); (case hg => rfl))
    all_goals first | rfl | exact Keeps.fr F1 (plR.nm rfl)
  rw [decide_eq_true hm] at c11
  (repeat' (first | (apply Ab.K.ev; exact ev_) | (apply Ab.K.aops; first | (apply Xg.s; constructor) | (apply Ab.S.guardU; (case hd => rfl); (case hb => (exact ev_; done))) | apply Ab.S.guardG) | (apply Ab.K.aop; first | (apply Og.s; constructor)) | (apply Ab.K.gk; first | (apply Xg.s; constructor) | (apply Ab.gY; case hw => assumption) | (apply Ab.gNT; case hw => assumption) | (apply Ab.gNF; case hw => assumption) | ((first | apply Ab.gD | apply Ab.gDN); all_goals (intro _ _; (first | contradiction | (exfalso; omega) | skip)))) | (apply Ab.K.awp; first | (apply Xg.s; constructor)) | (apply Ab.K.at_; exact at_) | (apply Ab.K.acall; first | assumption | first | exact c9 _ | exact c11 | (rw [← hs1]; exact c11)) | (apply Ab.Rg.mk; omega) | (apply Ab.Lt.mk; first | decide | (simp; done) | (simp; omega) | fail) | (apply Ab.Get.mk; first | rfl | fail) | (apply Ab.Nm.mk; first | exact nrm_) | (apply Xg.s; constructor) | (apply Ab.asm; assumption) | rfl | infer_instance | decide))
  clear c11
  refine AWp.loop (fun kk tm s2 => ∃ (i M : Nat), Ev tm (.tmp 1) (.slice B fs.length capf) ∧ Ev tm (.tmp 2) (.pointer (some ⟨N, 0, none⟩)) ∧ Ev tm (.tmp 5) (.int .i64 i) ∧ At s2 N (.cells true 1 (lna last cur prop over base sent (.slice A q.length cap) clock next owes)) ∧ Fr s2 s [] ∧ Top M s2 ∧ N + 1 ≤ M ∧ i ≤ fs.length ∧ kk = fs.length - i) fs.length ?_ ?_
  · exact ⟨0, N + 1, by exact ev_, by exact ev_, by exact ev_, aN, F1, T1, Nat.le_refl _, by omega, rfl⟩
  clear F1 T1 aN hs1 hS
  rintro kk tm s2 ⟨i, M, e1, e2, e5, aN, F2, T2, hM, hi, hkk⟩
  by_cases hin : i < fs.length
  case neg =>
    (repeat' (first | (apply Ab.K.ev; exact ev_) | (apply Ab.K.aops; first | (apply Xg.s; constructor) | (apply Ab.S.guardU; (case hd => rfl); (case hb => (exact ev_; done))) | apply Ab.S.guardG) | (apply Ab.K.aop; first | (apply Og.s; constructor)) | (apply Ab.K.gk; first | (apply Xg.s; constructor) | (apply Ab.gY; case hw => assumption) | (apply Ab.gNT; case hw => assumption) | (apply Ab.gNF; case hw => assumption) | ((first | apply Ab.gD | apply Ab.gDN); all_goals (intro _ _; (first | contradiction | (exfalso; omega) | skip)))) | (apply Ab.K.awp; first | (apply Xg.s; constructor)) | (apply Ab.K.at_; exact at_) | (apply Ab.K.acall; first | assumption | exact c9 _) | (apply Ab.Rg.mk; omega) | (apply Ab.Lt.mk; first | decide | (simp; done) | (simp; omega) | fail) | (apply Ab.Get.mk; first | rfl | fail) | (apply Ab.Nm.mk; first | exact nrm_) | (apply Xg.s; constructor) | (apply Ab.asm; assumption) | rfl | infer_instance | decide))
    all_goals ((first | apply RetQ.ret | apply RetQ.normal); (case he => exact evr_); (case hg => rfl))
    all_goals first | rfl | exact Keeps.fr F2 (plR.nm rfl)
  by_cases h50 : (i : Int) < 50
  case neg =>
    (repeat' (first | (apply Ab.K.ev; exact ev_) | (apply Ab.K.aops; first | (apply Xg.s; constructor) | (apply Ab.S.guardU; (case hd => rfl); (case hb => (exact ev_; done))) | apply Ab.S.guardG) | (apply Ab.K.aop; first | (apply Og.s; constructor)) | (apply Ab.K.gk; first | (apply Xg.s; constructor) | (apply Ab.gY; case hw => assumption) | (apply Ab.gNT; case hw => assumption) | (apply Ab.gNF; case hw => assumption) | ((first | apply Ab.gD | apply Ab.gDN); all_goals (intro _ _; (first | contradiction | (exfalso; omega) | skip)))) | (apply Ab.K.awp; first | (apply Xg.s; constructor)) | (apply Ab.K.at_; exact at_) | (apply Ab.K.acall; first | assumption | exact c9 _) | (apply Ab.Rg.mk; omega) | (apply Ab.Lt.mk; first | decide | (simp; done) | (simp; omega) | fail) | (apply Ab.Get.mk; first | rfl | fail) | (apply Ab.Nm.mk; first | exact nrm_) | (apply Xg.s; constructor) | (apply Ab.asm; assumption) | rfl | infer_instance | decide))
    all_goals ((first | apply RetQ.ret | apply RetQ.normal); (case he => exact evr_); (case hg => rfl))
    all_goals first | rfl | exact Keeps.fr F2 (plR.nm rfl)
  have hS : Sub s s2 := fun i c hc => F2 i (by simp) c hc
  obtain ⟨x, hx⟩ : ∃ x, fs[i]? = some x := ⟨_, List.getElem?_eq_getElem hin⟩
  obtain ⟨o, off, c, sp, rw', cs, u, e, _, ha, hgl, hgt, hu⟩ := Sl.felt hf hx
  obtain ⟨rfl, rfl⟩ : B = some ⟨o, off, sp⟩ ∧ capf = c := by injection e with e1 e2 e3; exact ⟨e1, e3⟩
  obtain ⟨A2, cap2, rfl, hcap2⟩ := hu.isl
  have a1 := hS.at_ ha
  have hx5 : (cs.drop (off + (i : Int).toNat * 5)).take 5 = [.int .i64 x.kind, .int .i64 x.ses, .int .i64 x.seq, .int .i64 x.ack, .slice A2 x.pay.length cap2] := by rw [Int.toNat_natCast]; exact hgt
  obtain ⟨s3, hs3⟩ : ∃ s3 : AHeap, s3 = (s2.set M (.cells true 1 [.int .i64 0, .int .i64 0, .int .i64 0, .int .i64 0, .slice none 0 0])).set M (.cells true 1 [.int .i64 x.kind, .int .i64 x.ses, .int .i64 x.seq, .int .i64 x.ack, .slice A2 x.pay.length cap2]) := ⟨_, rfl⟩
  have F3 : Fr s3 s [] := by rw [hs3]; exact Fr.new (hT.free (by omega)) (Fr.new (hT.free (by omega)) F2)
  have hS3 : Sub s s3 := fun i c hc => F3 i (by simp) c hc
  have T3 : Top (M + 1) s3 := by rw [hs3]; exact Top.set T2.new (by omega)
  have b0 : At s3 N (.cells true 1 (lna last cur prop over base sent (.slice A q.length cap) clock next owes)) := by rw [hs3]; exact at_
  have b1 : At s3 M (.cells true 1 [.int .i64 x.kind, .int .i64 x.ses, .int .i64 x.seq, .int .i64 x.ack, .slice A2 x.pay.length cap2]) := by rw [hs3]; exact At.hit


  have c13 := mayF' (s := s3) (kind := x.kind) (ses := x.ses) (seq := x.seq) (ack := x.ack) (hu.bt hS3)
  by_cases hfm : Fm.May ⟨x.kind, x.ses, x.seq, x.ack, x.pay⟩
  case neg =>
    rw [decide_eq_false hfm] at c13
    (repeat' (first | (apply Ab.K.ev; exact ev_) | (apply Ab.K.aops; first | (apply Xg.s; constructor) | (apply Ab.S.guardU; (case hd => rfl); (case hb => (exact ev_; done))) | apply Ab.S.guardG) | (apply Ab.K.aop; first | (apply Ab.O.allocA M; (case hid => exact T2.free (Nat.le_refl _)); (case hp => rfl)) | (apply Og.s; constructor)) | (apply Ab.K.gk; first | (apply Xg.s; constructor) | (apply Ab.gY; case hw => assumption) | (apply Ab.gNT; case hw => assumption) | (apply Ab.gNF; case hw => assumption) | ((first | apply Ab.gD | apply Ab.gDN); all_goals (intro _ _; (first | contradiction | (exfalso; omega) | skip)))) | (apply Ab.K.awp; first | (apply Xg.s; constructor)) | (apply Ab.K.at_; exact at_) | (apply Ab.K.acall; first | assumption | (rw [← hs3]; exact c13)) | (apply Ab.Rg.mk; omega) | (apply Ab.Lt.mk; first | decide | (simp; done) | (simp; omega) | (rw [Int.toNat_natCast]; show _ + 5 < _; omega)) | (apply Ab.Get.mk; first | rfl | fail) | (apply Ab.Nm.mk; first | exact hx5 | exact nrm_) | (apply Xg.s; constructor) | (apply Ab.asm; assumption) | rfl | infer_instance | decide))
    try rw [← hs3]
    exact X.roundN (fs.length - (i + 1)) (by omega) ⟨i + 1, M + 1, by exact ev_, by exact ev_, by exact ev_, b0, F3, T3, by omega, by omega, rfl⟩
  rw [decide_eq_true hfm] at c13
  by_cases hpl : (x.pay.length : Int) > 1000
  case pos =>
    (repeat' (first | (apply Ab.K.ev; exact ev_) | (apply Ab.K.aops; first | (apply Xg.s; constructor) | (apply Ab.S.guardU; (case hd => rfl); (case hb => (exact ev_; done))) | apply Ab.S.guardG) | (apply Ab.K.aop; first | (apply Ab.O.allocA M; (case hid => exact T2.free (Nat.le_refl _)); (case hp => rfl)) | (apply Og.s; constructor)) | (apply Ab.K.gk; first | (apply Xg.s; constructor) | (apply Ab.gY; case hw => assumption) | (apply Ab.gNT; case hw => assumption) | (apply Ab.gNF; case hw => assumption) | ((first | apply Ab.gD | apply Ab.gDN); all_goals (intro _ _; (first | contradiction | (exfalso; omega) | skip)))) | (apply Ab.K.awp; first | (apply Xg.s; constructor)) | (apply Ab.K.at_; exact at_) | (apply Ab.K.acall; first | assumption | (rw [← hs3]; exact c13)) | (apply Ab.Rg.mk; omega) | (apply Ab.Lt.mk; first | decide | (simp; done) | (simp; omega) | (rw [Int.toNat_natCast]; show _ + 5 < _; omega)) | (apply Ab.Get.mk; first | rfl | fail) | (apply Ab.Nm.mk; first | exact hx5 | exact nrm_) | (apply Xg.s; constructor) | (apply Ab.asm; assumption) | rfl | infer_instance | decide))
    try rw [← hs3]
    exact X.roundN (fs.length - (i + 1)) (by omega) ⟨i + 1, M + 1, by exact ev_, by exact ev_, by exact ev_, b0, F3, T3, by omega, by omega, rfl⟩
  by_cases hk1 : x.kind = 1
  case pos =>
    (repeat' (first | (apply Ab.K.ev; exact ev_) | (apply Ab.K.aops; first | (apply Xg.s; constructor) | (apply Ab.S.guardU; (case hd => rfl); (case hb => (exact ev_; done))) | apply Ab.S.guardG) | (apply Ab.K.aop; first | (apply Ab.O.allocA M; (case hid => exact T2.free (Nat.le_refl _)); (case hp => rfl)) | (apply Og.s; constructor)) | (apply Ab.K.gk; first | (apply Xg.s; constructor) | (apply Ab.gY; case hw => assumption) | (apply Ab.gNT; case hw => assumption) | (apply Ab.gNF; case hw => assumption) | ((first | apply Ab.gD | apply Ab.gDN); all_goals (intro _ _; (first | contradiction | (exfalso; omega) | skip)))) | (apply Ab.K.awp; first | (apply Xg.s; constructor)) | (apply Ab.K.at_; exact at_) | (apply Ab.K.acall; first | assumption | (rw [← hs3]; exact c13)) | (apply Ab.Rg.mk; omega) | (apply Ab.Lt.mk; first | decide | (simp; done) | (simp; omega) | (rw [Int.toNat_natCast]; show _ + 5 < _; omega)) | (apply Ab.Get.mk; first | rfl | fail) | (apply Ab.Nm.mk; first | exact hx5 | exact nrm_) | (apply Xg.s; constructor) | (apply Ab.asm; assumption) | rfl | infer_instance | decide))
    try rw [← hs3]
    exact X.roundN (fs.length - (i + 1)) (by omega) ⟨i + 1, M + 1, by exact ev_, by exact ev_, by exact ev_, b0, F3, T3, by omega, by omega, rfl⟩
  by_cases hk2 : x.kind = 2
  case pos =>
    (repeat' (first | (apply Ab.K.ev; exact ev_) | (apply Ab.K.aops; first | (apply Xg.s; constructor) | (apply Ab.S.guardU; (case hd => rfl); (case hb => (exact ev_; done))) | apply Ab.S.guardG) | (apply Ab.K.aop; first | (apply Ab.O.allocA M; (case hid => exact T2.free (Nat.le_refl _)); (case hp => rfl)) | (apply Og.s; constructor)) | (apply Ab.K.gk; first | (apply Xg.s; constructor) | (apply Ab.gY; case hw => assumption) | (apply Ab.gNT; case hw => assumption) | (apply Ab.gNF; case hw => assumption) | ((first | apply Ab.gD | apply Ab.gDN); all_goals (intro _ _; (first | contradiction | (exfalso; omega) | skip)))) | (apply Ab.K.awp; first | (apply Xg.s; constructor)) | (apply Ab.K.at_; exact at_) | (apply Ab.K.acall; first | assumption | (rw [← hs3]; exact c13)) | (apply Ab.Rg.mk; omega) | (apply Ab.Lt.mk; first | decide | (simp; done) | (simp; omega) | (rw [Int.toNat_natCast]; show _ + 5 < _; omega)) | (apply Ab.Get.mk; first | rfl | fail) | (apply Ab.Nm.mk; first | exact hx5 | exact nrm_) | (apply Xg.s; constructor) | (apply Ab.asm; assumption) | rfl | infer_instance | decide))
    try rw [← hs3]
    exact X.roundN (fs.length - (i + 1)) (by omega) ⟨i + 1, M + 1, by exact ev_, by exact ev_, by exact ev_, b0, F3, T3, by omega, by omega, rfl⟩
  have hst : (cur > 0 ∧ x.ses = cur) ∨ (lhear ⟨⟨last, cur, prop, over⟩, ⟨base, sent, q, clock⟩, ⟨next, owes⟩⟩ ⟨x.kind, x.ses, x.seq, x.ack, x.pay⟩ 9 = (⟨⟨last, cur, prop, over⟩, ⟨base, sent, q, clock⟩, ⟨next, owes⟩⟩, nw0)) := by
    by_cases h0 : cur > 0 ∧ x.ses = cur
    · exact .inl h0
    · refine .inr (lhear_stale hk1 hk2 (fun ⟨a, b⟩ => h0 ⟨?_, b⟩))
      have hhm : H.May ⟨last, cur, prop, over⟩ := hm.1.1
      unfold H.May at hhm
      simp only at hhm a b
      omega
  by_cases h0 : cur > 0 ∧ x.ses = cur
  case pos =>
    obtain ⟨h01, h02⟩ := h0
    (repeat' (first | (apply Ab.K.ev; exact ev_) | (apply Ab.K.aops; first | (apply Xg.s; constructor) | (apply Ab.S.guardU; (case hd => rfl); (case hb => (exact ev_; done))) | apply Ab.S.guardG) | (apply Ab.K.aop; first | (apply Ab.O.allocA M; (case hid => exact T2.free (Nat.le_refl _)); (case hp => rfl)) | (apply Og.s; constructor)) | (apply Ab.K.gk; first | (apply Xg.s; constructor) | (apply Ab.gY; case hw => assumption) | (apply Ab.gNT; case hw => assumption) | (apply Ab.gNF; case hw => assumption) | ((first | apply Ab.gD | apply Ab.gDN); all_goals (intro _ _; (first | contradiction | (exfalso; omega) | skip)))) | (apply Ab.K.awp; first | (apply Xg.s; constructor)) | (apply Ab.K.at_; exact at_) | (apply Ab.K.acall; first | assumption | (rw [← hs3]; exact c13)) | (apply Ab.Rg.mk; omega) | (apply Ab.Lt.mk; first | decide | (simp; done) | (simp; omega) | (rw [Int.toNat_natCast]; show _ + 5 < _; omega)) | (apply Ab.Get.mk; first | rfl | fail) | (apply Ab.Nm.mk; first | exact hx5 | exact nrm_) | (apply Xg.s; constructor) | (apply Ab.asm; assumption) | rfl | infer_instance | decide))
    try rw [← hs3]
    exact X.roundN (fs.length - (i + 1)) (by omega) ⟨i + 1, M + 1, by exact ev_, by exact ev_, by exact ev_, b0, F3, T3, by omega, by omega, rfl⟩
  have ch := hear10' (last := last) (cur := cur) (prop := prop) (over := over) (base := base) (sent := sent) (clock := clock) (next := next) (owes := owes) (kind := x.kind) (ses := x.ses) (seq := x.seq) (ack := x.ack) (lim := 9) hS3 h (hu) hm hfm (by omega)
  have hst := hst.resolve_left h0
  obtain ⟨Y, hY⟩ : ∃ Y, Y = lhear ⟨⟨last, cur, prop, over⟩, ⟨base, sent, q, clock⟩, ⟨next, owes⟩⟩ ⟨x.kind, x.ses, x.seq, x.ack, x.pay⟩ 9 := ⟨_, rfl⟩
  rw [← hY] at ch hst
  have hY1 : Y.1 = ⟨⟨last, cur, prop, over⟩, ⟨base, sent, q, clock⟩, ⟨next, owes⟩⟩ := by rw [hst]
  have hY2 : Y.2 = nw0 := by rw [hst]
  have hYq : Y.1.s.q.length ≤ 300 := by rw [hY1]; exact hq
  have hYf : Y.2.frames.length ≤ 1 := by rw [hY2]; simp [nw0]
  have hYc : Y.2.came.length ≤ 1 := by rw [hY2]; simp [nw0]
  clear hst hY

  by_cases h01 : cur > 0
  case' pos => have h02 : ¬ x.ses = cur := fun e => h0 ⟨h01, e⟩
  all_goals (repeat' (first | (apply Ab.K.ev; exact ev_) | (apply Ab.K.aops; first | (apply Xg.s; constructor) | (apply Ab.S.guardU; (case hd => rfl); (case hb => (exact ev_; done))) | apply Ab.S.guardG) | (apply Ab.K.aop; first | (first | (apply Ab.O.allocA M; (case hid => exact T2.free (Nat.le_refl _)); (case hp => rfl)) | (apply Ab.O.callFE; (case ha => exact evs_); (case hc => exact ch))) | (apply Og.s; constructor)) | (apply Ab.K.gk; first | (apply Xg.s; constructor) | (apply Ab.gY; case hw => assumption) | (apply Ab.gNT; case hw => assumption) | (apply Ab.gNF; case hw => assumption) | ((first | apply Ab.gD | apply Ab.gDN); all_goals (intro _ _; (first | contradiction | (exfalso; omega) | skip)))) | (apply Ab.K.awp; first | (apply Xg.s; constructor)) | (apply Ab.K.at_; exact at_) | (apply Ab.K.acall; first | assumption | first | (rw [← hs3]; exact c13) | exact c9 _) | (apply Ab.Rg.mk; omega) | (apply Ab.Lt.mk; first | decide | (simp; done) | (simp; omega) | (rw [Int.toNat_natCast]; show _ + 5 < _; omega)) | (apply Ab.Get.mk; first | rfl | fail) | (apply Ab.Nm.mk; first | exact hx5 | exact nrm_) | (apply Xg.s; constructor) | (apply Ab.asm; assumption) | rfl | infer_instance | decide))

  all_goals rintro r s4 ⟨b4, I4, c4, d4, rfl, ⟨v4, rfl, hv4⟩, ⟨vf4, vc4, rfl, hf4, hc4⟩⟩
  all_goals obtain ⟨Bv, cv, rfl, _⟩ := hv4.isl
  all_goals obtain ⟨Bf, cf, rfl, _⟩ := hf4.isl
  all_goals obtain ⟨Bc, cc, rfl, _⟩ := hc4.isl
  all_goals obtain ⟨M4, hM4, T4⟩ := I4.fin _ T3
  all_goals clear c13 ch
  all_goals have g0 := I4.kp.at_ b0
  all_goals have F4 : Fr s4 s [] := fun i hi c hc => I4.kp i c (F3 i hi c hc)
  all_goals obtain ⟨s5, hs5⟩ : ∃ s5 : AHeap, s5 = (((s4.set M4 (.cells true 1 ln00)).set (M4 + 1) (.cells true 1 nw00)).set M4 (.cells true 1 (lnl Y.1.h Y.1.s (.slice Bv Y.1.s.q.length cv) Y.1.t))).set (M4 + 1) (.cells true 1 [.slice Bf Y.2.frames.length cf, .slice Bc Y.2.came.length cc, .bool Y.2.down, .int .i64 Y.2.ses]) := ⟨_, rfl⟩
  all_goals have F5 : Fr s5 s [] := by rw [hs5]; exact Fr.new (hT.free (by omega)) (Fr.new (hT.free (by omega)) (Fr.new (hT.free (by omega)) (Fr.new (hT.free (by omega)) F4)))
  all_goals have T5 : Top (M4 + 2) s5 := by rw [hs5]; exact Top.set (Top.set T4.new.new (by omega)) (by omega)
  all_goals have f0 : At s5 N (.cells true 1 (lna last cur prop over base sent (.slice A q.length cap) clock next owes)) := by rw [hs5]; exact at_
  all_goals have f2 : At s5 M4 (.cells true 1 (lnl Y.1.h Y.1.s (.slice Bv Y.1.s.q.length cv) Y.1.t)) := by rw [hs5]; exact at_
  all_goals have f3 : At s5 (M4 + 1) (.cells true 1 [.slice Bf Y.2.frames.length cf, .slice Bc Y.2.came.length cc, .bool Y.2.down, .int .i64 Y.2.ses]) := by rw [hs5]; exact At.hit
  all_goals have n1 : ∀ i, M4 ≤ i → b4 i = none := fun i hi => I4.sub.none (T4.none hi)
  all_goals have hb5 : Sub b4 s5 := by rw [hs5]; exact (((I4.sub.setR (n1 _ (by omega))).setR (n1 _ (by omega))).setR (n1 _ (by omega))).setR (n1 _ (by omega))
  all_goals have hS5 : Sub s s5 := fun i c hc => F5 i (by simp) c hc
  all_goals have cs17 := same17 (s := s5) (x := Y.1) (y := ⟨⟨last, cur, prop, over⟩, ⟨base, sent, q, clock⟩, ⟨next, owes⟩⟩) ⟨_, rfl, (hv4.sub datQ hb5)⟩ ⟨_, rfl, h.sub datQ hS5⟩ (by omega) (by show q.length ≤ _; omega)
  all_goals rw [decide_eq_true hY1] at cs17
  all_goals have cs18 := news18 (s := s5) (x := Y.2) (y := nw0) ⟨_, _, rfl, hf4.sub datF hb5, hc4.sub datQ hb5⟩ (RW.zero s5) (by omega) (by simp [nw0]) (by omega) (by simp [nw0])
  all_goals rw [decide_eq_true hY2] at cs18

  all_goals (repeat' (first | (apply Ab.K.ev; exact ev_) | (apply Ab.K.aops; first | (apply Xg.s; constructor) | (apply Ab.S.guardU; (case hd => rfl); (case hb => (exact ev_; done))) | apply Ab.S.guardG) | (apply Ab.K.aop; first | (first | (apply Ab.O.allocA M4; (case hid => exact T4.free (Nat.le_refl _)); (case hp => rfl)) | (apply Ab.O.allocA (M4 + 1); (case hid => exact T4.new.free (Nat.le_refl _)); (case hp => rfl))) | (apply Og.s; constructor)) | (apply Ab.K.gk; first | (apply Xg.s; constructor) | (apply Ab.gY; case hw => assumption) | (apply Ab.gNT; case hw => assumption) | (apply Ab.gNF; case hw => assumption) | ((first | apply Ab.gD | apply Ab.gDN); all_goals (intro _ _; (first | contradiction | (exfalso; omega) | skip)))) | (apply Ab.K.awp; first | (apply Xg.s; constructor)) | (apply Ab.K.at_; exact at_) | (apply Ab.K.acall; first | assumption | first | exact cs17 | exact cs18 | (rw [← hs5]; exact cs17) | (rw [← hs5]; exact cs18)) | (apply Ab.Rg.mk; omega) | (apply Ab.Lt.mk; first | decide | (simp; done) | (simp; omega) | fail) | (apply Ab.Get.mk; first | rfl | fail) | (apply Ab.Nm.mk; first | exact nrm_) | (apply Xg.s; constructor) | (apply Ab.asm; assumption) | rfl | infer_instance | decide))
  all_goals try rw [← hs5]
  all_goals exact X.roundN (fs.length - (i + 1)) (by omega) ⟨i + 1, M4 + 2, by exact ev_, by exact ev_, by exact ev_, f0, F5, T5, by omega, by omega, rfl⟩
end Go.Proofs.Ytoiplbackllgfaa
