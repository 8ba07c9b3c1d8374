/- texts of this claim, one behind the other: ME, LU. -/
import Derived.Test.YtoiplbackllgfaaM13
import Derived.Test.YtoiplbackllgfaaM15
import Derived.Test.YtoiplbackllgfaaM16
import Derived.Test.YtoiplbackllgfaaM17

/- lines: a line that flushes. -/
namespace Go.Proofs.Ytoiplbackllgfaa
set_option linter.unusedVariables false
set_option linter.unusedSimpArgs false
set_option linter.unusedSectionVars false
open Go.RowKit Ab HP
attribute [local irreducible] AOps AOpsD AOpsP QStep NX AOp AWp put nargs AHeap.set At Free ACall ACallE thenQ blockQ roundQ RetQ RetE Src Gr
/-- A line that flushes. -/
def lflush (l : Ln) : Ln × Nw := (⟨l.h, (readyS l.s).1, ackT l.t⟩, ⟨if l.t.owes = true then frs l.h.cur l.t.next (readyS l.s).2 ++ [⟨4, l.h.cur, 0, l.t.next, []⟩] else frs l.h.cur l.t.next (readyS l.s).2, [], false, 0⟩)
theorem readyS_len {x : Sd} : (readyS x).1.q.length = x.q.length ∧ (readyS x).2.length ≤ x.q.length := by
  unfold readyS; split
  · exact ⟨rfl, by show (List.take _ (List.drop _ _)).length ≤ _; rw [List.length_take, List.length_drop, nmb_length]; omega⟩
  · exact ⟨rfl, by simp⟩
set_option maxRecDepth 100000 in
set_option maxHeartbeats 8000000 in
theorem flush27' {s b : AHeap} {last cur prop base clock next : Int} {over owes : Bool} {sent : Nat} {v : Value} {q : List (List Int)} (hb : Sub b s) (h : Qt b v q) (hm : Ln.May ⟨⟨last, cur, prop, over⟩, ⟨base, sent, q, clock⟩, ⟨next, owes⟩⟩) :
    ACallE Try.prog 27 [.agg (lna last cur prop over base sent v clock next owes).toArray] s (Pu s b (LWE (lflush ⟨⟨last, cur, prop, over⟩, ⟨base, sent, q, clock⟩, ⟨next, owes⟩⟩).1 (lflush ⟨⟨last, cur, prop, over⟩, ⟨base, sent, q, clock⟩, ⟨next, owes⟩⟩).2 0)) := by
  have hq : q.length ≤ 256 := hm.1.2.1.1.2.1
  have htm : Tk.May ⟨next, owes⟩ := hm.1.2.2
  refine ACallE.make Try.func27 rfl (by kernel_rfl) (by decide) rfl (fun N hN0 => ?_)
  have hT : Top N s := hN0
  obtain ⟨A, cap, rfl, hcap⟩ := h.isl
  obtain ⟨s1, hs1⟩ : ∃ s1 : AHeap, s1 = ((s.set N (.cells true 1 (lna last cur prop over base sent (.slice A q.length cap) clock next owes))).set (N + 1) (.cells true 1 ln00)).set (N + 2) (.cells true 1 nw00) := ⟨_, rfl⟩
  have I1 : Inv s b s1 b := by rw [hs1]; exact (((Inv.refl hb).boxT hT (Nat.le_refl _)).boxT hT.new (Nat.le_refl _)).boxT hT.new.new (Nat.le_refl _)
  have z : ∀ i, N ≤ i → i < N + 3 → Prv s s1 b i := fun i h1 h2 => ⟨hT.none h1, hb.none (hT.none h1), by
    rw [hs1]
    rcases (show i = N ∨ i = N + 1 ∨ i = N + 2 by omega) with rfl | rfl | rfl
    all_goals simp [AHeap.set]⟩
  have PN := z N (by omega) (by omega)
  have PN1 := z (N + 1) (by omega) (by omega)
  have PN2 := z (N + 2) (by omega) (by omega)
  have T1 : Top (N + 3) s1 := by rw [hs1]; exact hT.new.new.new
  have aN : At s1 N (.cells true 1 (lna last cur prop over base sent (.slice A q.length cap) clock next owes)) := by rw [hs1]; exact at_
  have aN1 : At s1 (N + 1) (.cells true 1 ln00) := by rw [hs1]; exact at_
  have aN2 : At s1 (N + 2) (.cells true 1 nw00) := by rw [hs1]; exact At.hit
  have c14 := checkL' (s := s1) (last := last) (cur := cur) (prop := prop) (over := over) (base := base) (sent := sent) (clock := clock) (next := next) (owes := owes) (h.sub datQ I1.sub) (by omega)
  rw [if_pos hm] at c14
  have ct := ready59' I1.sub h hm.1.2.1
  (repeat' (first | (apply Ab.K.ev; exact ev_) | (apply Ab.K.aops; first | (apply Xg.s; constructor) | apply Ab.S.guardG) | (apply Ab.K.aop; first | (first | (apply Ab.O.boxA N; (case hx => exact ev_); (case hid => exact frees_)) | (apply Ab.O.allocA (N + 1); (case hid => exact frees_); (case hp => rfl)) | (apply Ab.O.allocA (N + 2); (case hid => exact frees_); (case hp => rfl)) | (apply Ab.O.callFE; (case ha => exact evs_); (case hc => exact ct))) | (apply Og.s; constructor)) | (apply Ab.K.gk; first | (apply Xg.s; constructor) | (apply Ab.gY; case hw => assumption) | (apply Ab.gNT; case hw => assumption) | (apply Ab.gNF; case hw => assumption) | ((first | apply Ab.gD | apply Ab.gDN); all_goals (intro _ _; (first | contradiction | (exfalso; omega) | skip)))) | (apply Ab.K.aopsD; first | (apply Ab.D.q0t; (case hw => rfl); (case hot => rfl)) | (apply Ab.D.w1t; (case hw => rfl); (case hot => rfl)) | (apply Ab.D.q0; (case hw => rfl); intro _ _) | (apply Ab.D.w1n; (case hw => rfl); intro _ _) | (apply Ab.D.w2n; (case hw => rfl); intro _ _) | (apply Xg.s; constructor) | fail | apply Ab.D.guardG) | (apply Ab.K.aopsP; first | apply Ab.Pd.nil | (apply Ab.Pd.q; (case hi => rfl)) | (apply Ab.Pd.z; (case hi => rfl)) | (apply Ab.Pd.zU; (case hi => rfl); (case hd => rfl); (case hb => (exact ev_; done))) | (apply Ab.Pd.zG; (case hi => rfl); (case hd => rfl)) | (apply Ab.Pd.st; (case hi => rfl)) | (apply Ab.Pd.qU; (case hi => rfl); (case hd => rfl); (case hb => (exact ev_; done))) | (apply Ab.Pd.qG; (case hi => rfl); (case hd => rfl)) | (apply Ab.Pd.stU; (case hi => rfl); (case hd => rfl); (case hb => (exact ev_; done))) | (apply Ab.Pd.stG; (case hi => rfl); (case hd => rfl))) | (apply Ab.Pd.qs; intro _ _) | (apply Ab.Pd.nxE; (case hE => rfl)) | (apply Ab.Pd.nxR; (case hr => (repeat' (first | exact Ab.Sub.del _ _ | assumption | (apply Ab.Sub.setI; (case hn => simp)) | (apply Ab.Sub.setF; (case hn => exact free_)) | exact (Ab.Sub.del _ _).trans (by assumption))))) | exact ⟨rfl, rfl⟩ | (apply Ab.K.awp; first | (apply AWp.schedS (id := 11) [(0, 1), (1, 1), (2, 0), (3, 0), (4, 0)] [3, 4] [[], [], [0], [0, 1, 2], [0, 1, 2, 3]] [N + 1, N + 2] (by kernel_rfl) (by kernel_rfl) (by kernel_rfl) rfl) | (apply Xg.s; constructor)) | (apply Ab.K.at_; exact at_) | (apply Ab.K.acall; first | assumption | (rw [← hs1]; exact c14)) | (apply Ab.Rg.mk; omega) | (apply Ab.Lt.mk; first | decide | (simp; done) | (simp; omega) | fail) | (apply Ab.Get.mk; first | rfl | fail) | (apply Ab.Nm.mk; first | exact nrm_) | (apply Xg.s; constructor) | (apply Ab.asm; assumption) | rfl | infer_instance | decide))
  rintro r s2 ⟨b2, I2, c2, w2, rfl, ⟨v2, rfl, hv2⟩, hw2⟩
  clear ct c14 hs1
  obtain ⟨⟨yb, ys, yq, yk⟩, hy⟩ : ∃ y, y = (readyS ⟨base, sent, q, clock⟩).1 := ⟨_, rfl⟩
  obtain ⟨ns, hns⟩ : ∃ ns, ns = (readyS ⟨base, sent, q, clock⟩).2 := ⟨_, rfl⟩
  have hnl : ns.length ≤ 1000000 := by rw [hns]; exact Nat.le_trans readyS_len.2 (by show q.length ≤ _; omega)
  have hlt : lflush ⟨⟨last, cur, prop, over⟩, ⟨base, sent, q, clock⟩, ⟨next, owes⟩⟩ = (⟨⟨last, cur, prop, over⟩, ⟨yb, ys, yq, yk⟩, ⟨next, false⟩⟩, ⟨if owes = true then frs cur next ns ++ [⟨4, cur, 0, next, []⟩] else frs cur next ns, [], false, 0⟩) := by
    rw [hy, hns]; rfl
  rw [hlt]
  rw [← hy] at hv2 ⊢
  rw [← hns] at hw2
  clear hlt hy hns
  simp only at hv2
  obtain ⟨B, cb, rfl, _⟩ := hv2.isl
  obtain ⟨Bn, cn, rfl, _⟩ := hw2.isl
  obtain ⟨M, hM, T2⟩ := I2.fin _ T1
  have I3 := I1.trans I2
  have P3 := PN.call I2
  have P31 := PN1.call I2
  have P32 := PN2.call I2
  have a3 := I2.kp.at_ aN
  have a31 := I2.kp.at_ aN1
  have a32 := I2.kp.at_ aN2
  obtain ⟨s3, hs3⟩ : ∃ s3 : AHeap, s3 = ((s2.set M (.cells true 1 [.int .i64 0, .int .i64 0, .slice none 0 0, .int .i64 0])).set M (.cells true 1 [.int .i64 yb, .int .i64 ys, .slice B yq.length cb, .int .i64 yk])).set N (.cells true 1 (lna last cur prop over yb ys (.slice B yq.length cb) yk next owes)) := ⟨_, rfl⟩
  have I4 : Inv s b s3 b2 := by rw [hs3]; exact ((I3.boxT T2 (Nat.le_refl _)).boxP (Prv.mk' I3 (T2.none (Nat.le_refl _)))).boxP P3.set.set
  have P4 : Prv s s3 b2 N := by rw [hs3]; (repeat' (first | assumption | apply Ab.Prv.set))
  have P41 : Prv s s3 b2 (N + 1) := by rw [hs3]; (repeat' (first | assumption | apply Ab.Prv.set))
  have P42 : Prv s s3 b2 (N + 2) := by rw [hs3]; (repeat' (first | assumption | apply Ab.Prv.set))
  have T3 : Top (M + 1) s3 := by rw [hs3]; exact (T2.new.set (by omega)).set (by omega)
  have d0 : At s3 N (.cells true 1 (lna last cur prop over yb ys (.slice B yq.length cb) yk next owes)) := by rw [hs3]; exact At.hit
  have d1 : At s3 (N + 1) (.cells true 1 ln00) := by rw [hs3]; exact at_
  have d2 : At s3 (N + 2) (.cells true 1 nw00) := by rw [hs3]; exact at_
  have cd := data58g (last := last) (cur := cur) (prop := prop) (over := over) (base := yb) (sent := ys) (v := .slice B yq.length cb) (clock := yk) (next := next) (owes := owes) I4.sub hw2 hnl

  (repeat' (first | (apply Ab.K.ev; exact ev_) | (apply Ab.K.aops; first | (apply Xg.s; constructor) | apply Ab.S.guardG) | (apply Ab.K.aop; first | (first | (apply Ab.O.allocA M; (case hid => exact T2.free (Nat.le_refl _)); (case hp => rfl)) | (apply Ab.O.callFE; (case ha => exact evs_); (case hc => rw [← hs3]; exact cd))) | (apply Og.s; constructor)) | (apply Ab.K.gk; first | (apply Xg.s; constructor) | (apply Ab.gY; case hw => assumption) | (apply Ab.gNT; case hw => assumption) | (apply Ab.gNF; case hw => assumption) | ((first | apply Ab.gD | apply Ab.gDN); all_goals (intro _ _; (first | contradiction | (exfalso; omega) | skip)))) | (apply Ab.K.aopsD; first | (apply Ab.D.q0t; (case hw => rfl); (case hot => rfl)) | (apply Ab.D.w1t; (case hw => rfl); (case hot => rfl)) | (apply Ab.D.q0; (case hw => rfl); intro _ _) | (apply Ab.D.w1n; (case hw => rfl); intro _ _) | (apply Ab.D.w2n; (case hw => rfl); intro _ _) | (apply Xg.s; constructor) | fail | apply Ab.D.guardG) | (apply Ab.K.aopsP; first | apply Ab.Pd.nil | (apply Ab.Pd.q; (case hi => rfl)) | (apply Ab.Pd.z; (case hi => rfl)) | (apply Ab.Pd.zU; (case hi => rfl); (case hd => rfl); (case hb => (exact ev_; done))) | (apply Ab.Pd.zG; (case hi => rfl); (case hd => rfl)) | (apply Ab.Pd.st; (case hi => rfl)) | (apply Ab.Pd.qU; (case hi => rfl); (case hd => rfl); (case hb => (exact ev_; done))) | (apply Ab.Pd.qG; (case hi => rfl); (case hd => rfl)) | (apply Ab.Pd.stU; (case hi => rfl); (case hd => rfl); (case hb => (exact ev_; done))) | (apply Ab.Pd.stG; (case hi => rfl); (case hd => rfl))) | (apply Ab.Pd.qs; intro _ _) | (apply Ab.Pd.nxE; (case hE => rfl)) | (apply Ab.Pd.nxR; (case hr => (repeat' (first | exact Ab.Sub.del _ _ | assumption | (apply Ab.Sub.setI; (case hn => simp)) | (apply Ab.Sub.setF; (case hn => exact free_)) | exact (Ab.Sub.del _ _).trans (by assumption))))) | exact ⟨rfl, rfl⟩ | (apply Ab.K.awp; first | (apply AWp.schedS (id := 11) [(0, 1), (1, 1), (2, 0), (3, 0), (4, 0)] [3, 4] [[], [], [0], [0, 1, 2], [0, 1, 2, 3]] [N + 1, N + 2] (by kernel_rfl) (by kernel_rfl) (by kernel_rfl) rfl) | (apply Xg.s; constructor)) | (apply Ab.K.at_; exact at_) | (apply Ab.K.acall; first | assumption | fail) | (apply Ab.Rg.mk; omega) | (apply Ab.Lt.mk; first | decide | (simp; done) | (simp; omega) | fail) | (apply Ab.Get.mk; first | rfl | fail) | (apply Ab.Nm.mk; first | exact nrm_) | (apply Xg.s; constructor) | (apply Ab.asm; assumption) | rfl | infer_instance | decide))
  rintro w s5 ⟨b5, on, xs, I5, G5, C5, hP5⟩
  clear cd
  obtain ⟨Bw, rfl⟩ := G5.isl
  obtain ⟨M5, hM5, T5⟩ := I5.fin _ T3
  have hP8 : ∀ o, on = some o → Prv s s5 b5 o := fun o e => ⟨I4.kp.none (hP5 o e).z, (hP5 o e).b, (hP5 o e).s⟩
  have hne : ∀ o, on = some o → o ≠ N ∧ o ≠ N + 1 ∧ o ≠ N + 2 := fun o e => by
    have hz := (hP5 o e).z
    refine ⟨fun e => ?_, fun e => ?_, fun e => ?_⟩ <;> rw [e] at hz
    · rw [d0.eq] at hz; cases hz
    · rw [d1.eq] at hz; cases hz
    · rw [d2.eq] at hz; cases hz
  have hlt5 := G5.lt T5
  have I8 := I4.trans I5
  have P8 := P4.call I5
  have P81 := P41.call I5
  have P82 := P42.call I5
  have a8 := I5.kp.at_ d0
  have a81 := I5.kp.at_ d1
  have a82 := I5.kp.at_ d2
  have hu8 := hv2.sub datQ I5.old
  clear hs3 d0 d1 d2 P4 P41 P42 P3 P31 P32 a3 a31 a32 I3 aN aN1 aN2 PN PN1 PN2 z hP5
  obtain ⟨s6, hs6⟩ : ∃ s6 : AHeap, s6 = (s5.set M5 (.cells true 1 nw00)).set M5 (.cells true 1 [.slice Bw (frs cur next ns).length (frs cur next ns).length, .slice none 0 0, .bool false, .int .i64 0]) := ⟨_, rfl⟩
  have I6 : Inv s b s6 b5 := by rw [hs6]; exact (I8.boxT T5 (Nat.le_refl _)).boxP (Prv.mk' I8 (T5.none (Nat.le_refl _)))
  have P6 : Prv s s6 b5 N := by rw [hs6]; (repeat' (first | assumption | apply Ab.Prv.set))
  have P61 : Prv s s6 b5 (N + 1) := by rw [hs6]; (repeat' (first | assumption | apply Ab.Prv.set))
  have P62 : Prv s s6 b5 (N + 2) := by rw [hs6]; (repeat' (first | assumption | apply Ab.Prv.set))
  have P65 : Prv s s6 b5 M5 := by rw [hs6]; exact (Prv.mk' I8 (T5.none (Nat.le_refl _))).set
  have hP6 : ∀ o, on = some o → Prv s s6 b5 o := fun o e => by rw [hs6]; exact (hP8 o e).set.set
  have G6 : Gr s6 5 0 (.slice Bw (frs cur next ns).length (frs cur next ns).length) on (frs cur next ns).length xs := by rw [hs6]; exact (G5.set (fun q e => by have := hlt5 q e; omega)).set (fun q e => by have := hlt5 q e; omega)
  have T6 : Top (M5 + 1) s6 := by rw [hs6]; exact T5.new.set (by omega)
  have f0 : At s6 N (.cells true 1 (lna last cur prop over yb ys (.slice B yq.length cb) yk next owes)) := by rw [hs6]; exact at_
  have f1 : At s6 (N + 1) (.cells true 1 ln00) := by rw [hs6]; exact at_
  have f2 : At s6 (N + 2) (.cells true 1 nw00) := by rw [hs6]; exact at_
  have f5 : At s6 M5 (.cells true 1 [.slice Bw (frs cur next ns).length (frs cur next ns).length, .slice none 0 0, .bool false, .int .i64 0]) := by rw [hs6]; exact At.hit
  clear G5 hP8 P8 P81 P82
  have ca : ACall Try.prog 60 [.agg #[.int .i64 next, .bool owes]] s6 (.tuple #[.agg #[.int .i64 next, .bool false], .int .i64 (if owes = true then next else 0), .bool owes]) s6 := takeAck (s := s6) (t := ⟨next, owes⟩) htm
  obtain ⟨s7, hs7⟩ : ∃ s7 : AHeap, s7 = ((s6.set (M5 + 1) (.cells true 1 [.int .i64 0, .bool false])).set (M5 + 1) (.cells true 1 [.int .i64 next, .bool false])).set N (.cells true 1 (lna last cur prop over yb ys (.slice B yq.length cb) yk next false)) := ⟨_, rfl⟩
  have I7 : Inv s b s7 b5 := by rw [hs7]; exact ((I6.boxT T6 (Nat.le_refl _)).boxP (Prv.mk' I6 (T6.none (Nat.le_refl _)))).boxP P6.set.set
  have P7 : Prv s s7 b5 N := by rw [hs7]; (repeat' (first | assumption | apply Ab.Prv.set))
  have P71 : Prv s s7 b5 (N + 1) := by rw [hs7]; (repeat' (first | assumption | apply Ab.Prv.set))
  have P72 : Prv s s7 b5 (N + 2) := by rw [hs7]; (repeat' (first | assumption | apply Ab.Prv.set))
  have P75 : Prv s s7 b5 M5 := by rw [hs7]; (repeat' (first | assumption | apply Ab.Prv.set))
  have hP7 : ∀ o, on = some o → Prv s s7 b5 o := fun o e => by rw [hs7]; exact (hP6 o e).set.set.set
  have G7 : Gr s7 5 0 (.slice Bw (frs cur next ns).length (frs cur next ns).length) on (frs cur next ns).length xs := by rw [hs7]; exact ((G6.set (fun q e => by have := hlt5 q e; omega)).set (fun q e => by have := hlt5 q e; omega)).set (fun q e => (hne q e).1)
  have T7 : Top (M5 + 2) s7 := by rw [hs7]; exact (T6.new.set (by omega)).set (by omega)
  have g0 : At s7 N (.cells true 1 (lna last cur prop over yb ys (.slice B yq.length cb) yk next false)) := by rw [hs7]; exact At.hit
  have g1 : At s7 (N + 1) (.cells true 1 ln00) := by rw [hs7]; exact at_
  have g2 : At s7 (N + 2) (.cells true 1 nw00) := by rw [hs7]; exact at_
  have g5 : At s7 M5 (.cells true 1 [.slice Bw (frs cur next ns).length (frs cur next ns).length, .slice none 0 0, .bool false, .int .i64 0]) := by rw [hs7]; exact at_
  cases owes
  case false =>
    rw [if_neg (show ¬ false = true by simp)]
    rw [if_neg (show ¬ false = true by simp)] at ca
    obtain ⟨b9, I9, hs9, hw9, hpr⟩ := G7.tell2 datF I7 hP7 C5
    have Q0 := hpr N (fun e => (hne N e).1 rfl) P7
    have Q1 := hpr (N + 1) (fun e => (hne (N + 1) e).2.1 rfl) P71
    have Q2 := hpr (N + 2) (fun e => (hne (N + 2) e).2.2 rfl) P72
    have Q5 := hpr M5 (fun e => by have := hlt5 M5 e; omega) P75
    have hu9 := hu8.sub datQ hs9
    clear P6 P61 P62 P65 P7 P71 P72 P75 I6 I7 I8 G6 G7 

    (repeat' (first | (apply Ab.K.ev; exact ev_) | (apply Ab.K.aops; first | (apply Xg.s; constructor) | apply Ab.S.guardG) | (apply Ab.K.aop; first | (first | (apply Ab.O.allocA M5; (case hid => exact T5.free (Nat.le_refl _)); (case hp => rfl)) | (apply Ab.O.allocA (M5 + 1); (case hid => exact T6.free (Nat.le_refl _)); (case hp => rfl))) | (apply Og.s; constructor)) | (apply Ab.K.gk; first | (apply Xg.s; constructor) | (apply Ab.gY; case hw => assumption) | (apply Ab.gNT; case hw => assumption) | (apply Ab.gNF; case hw => assumption) | ((first | apply Ab.gD | apply Ab.gDN); all_goals (intro _ _; (first | contradiction | (exfalso; omega) | skip)))) | (apply Ab.K.aopsD; first | (apply Ab.D.q0t; (case hw => rfl); (case hot => rfl)) | (apply Ab.D.w1t; (case hw => rfl); (case hot => rfl)) | (apply Ab.D.q0; (case hw => rfl); intro _ _) | (apply Ab.D.w1n; (case hw => rfl); intro _ _) | (apply Ab.D.w2n; (case hw => rfl); intro _ _) | (apply Xg.s; constructor) | fail | apply Ab.D.guardG) | (apply Ab.K.aopsP; first | apply Ab.Pd.nil | (apply Ab.Pd.q; (case hi => rfl)) | (apply Ab.Pd.z; (case hi => rfl)) | (apply Ab.Pd.zU; (case hi => rfl); (case hd => rfl); (case hb => (exact ev_; done))) | (apply Ab.Pd.zG; (case hi => rfl); (case hd => rfl)) | (apply Ab.Pd.st; (case hi => rfl)) | (apply Ab.Pd.qU; (case hi => rfl); (case hd => rfl); (case hb => (exact ev_; done))) | (apply Ab.Pd.qG; (case hi => rfl); (case hd => rfl)) | (apply Ab.Pd.stU; (case hi => rfl); (case hd => rfl); (case hb => (exact ev_; done))) | (apply Ab.Pd.stG; (case hi => rfl); (case hd => rfl))) | (apply Ab.Pd.qs; intro _ _) | (apply Ab.Pd.nxE; (case hE => rfl)) | (apply Ab.Pd.nxR; (case hr => (repeat' (first | exact Ab.Sub.del _ _ | assumption | (apply Ab.Sub.setI; (case hn => simp)) | (apply Ab.Sub.setF; (case hn => exact free_)) | exact (Ab.Sub.del _ _).trans (by assumption))))) | exact ⟨rfl, rfl⟩ | (apply Ab.K.awp; first | (apply AWp.schedS (id := 11) [(0, 1), (1, 1), (2, 0), (3, 0), (4, 0)] [3, 4] [[], [], [0], [0, 1, 2], [0, 1, 2, 3]] [N + 1, N + 2] (by kernel_rfl) (by kernel_rfl) (by kernel_rfl) rfl) | (apply Xg.s; constructor)) | (apply Ab.K.at_; exact at_) | (apply Ab.K.acall; first | assumption | (rw [← hs6]; exact ca)) | (apply Ab.Rg.mk; omega) | (apply Ab.Lt.mk; first | decide | (simp; done) | (simp; omega) | fail) | (apply Ab.Get.mk; first | rfl | fail) | (apply Ab.Nm.mk; first | exact nrm_) | (apply Xg.s; constructor) | (apply Ab.asm; assumption) | rfl | infer_instance | decide))
    all_goals apply RetE.puR (b := b9)
    case I => first | (rw [← hs7]; (repeat' (first | assumption | (apply Ab.Inv.boxP; (case p => (repeat' (first | assumption | apply Ab.Prv.set))))))) | (repeat' (first | assumption | (apply Ab.Inv.boxP; (case p => (repeat' (first | assumption | apply Ab.Prv.set))))))
    case he => exact evr_
    case hg => rfl
    · exact (LWE.mk (y := ⟨⟨last, cur, prop, over⟩, ⟨yb, ys, yq, yk⟩, ⟨next, false⟩⟩) (n := ⟨frs cur next ns, [], false, 0⟩) ⟨_, rfl, hu9⟩ ⟨_, _, rfl, hw9, .nil⟩).1
    · exact (LWE.mk (y := ⟨⟨last, cur, prop, over⟩, ⟨yb, ys, yq, yk⟩, ⟨next, false⟩⟩) (n := ⟨frs cur next ns, [], false, 0⟩) (e := 0) ⟨_, rfl, hu9⟩ ⟨_, _, rfl, hw9, .nil⟩).2
  rw [if_pos rfl] at ca
  rw [if_pos rfl]

  (repeat' (first | (apply Ab.K.ev; exact ev_) | (apply Ab.K.aops; first | (apply Xg.s; constructor) | apply Ab.S.guardG) | (apply Ab.K.aop; first | (first | (apply Ab.O.allocA M5; (case hid => exact T5.free (Nat.le_refl _)); (case hp => rfl)) | (apply Ab.O.allocA (M5 + 1); (case hid => exact T6.free (Nat.le_refl _)); (case hp => rfl)) | (apply Ab.O.build1A (M5 + 2); (case hx => exact ev_); (case hl => rfl); (case hz => exact ⟨rfl, rfl⟩); (case hes => decide); (case hid => first | exact T7.free (Nat.le_refl _) | exact ((T6.new.set (by omega)).set (by omega)).free (Nat.le_refl _)))) | (apply Og.s; constructor)) | (apply Ab.K.gk; first | (apply Xg.s; constructor) | (apply Ab.gY; case hw => assumption) | (apply Ab.gNT; case hw => assumption) | (apply Ab.gNF; case hw => assumption) | ((first | apply Ab.gD | apply Ab.gDN); all_goals (intro _ _; (first | contradiction | (exfalso; omega) | skip)))) | (apply Ab.K.aopsD; first | (apply Ab.D.q0t; (case hw => rfl); (case hot => rfl)) | (apply Ab.D.w1t; (case hw => rfl); (case hot => rfl)) | (apply Ab.D.q0; (case hw => rfl); intro _ _) | (apply Ab.D.w1n; (case hw => rfl); intro _ _) | (apply Ab.D.w2n; (case hw => rfl); intro _ _) | (apply Xg.s; constructor) | fail | apply Ab.D.guardG) | (apply Ab.K.aopsP; first | apply Ab.Pd.nil | (apply Ab.Pd.q; (case hi => rfl)) | (apply Ab.Pd.z; (case hi => rfl)) | (apply Ab.Pd.zU; (case hi => rfl); (case hd => rfl); (case hb => (exact ev_; done))) | (apply Ab.Pd.zG; (case hi => rfl); (case hd => rfl)) | (apply Ab.Pd.st; (case hi => rfl)) | (apply Ab.Pd.qU; (case hi => rfl); (case hd => rfl); (case hb => (exact ev_; done))) | (apply Ab.Pd.qG; (case hi => rfl); (case hd => rfl)) | (apply Ab.Pd.stU; (case hi => rfl); (case hd => rfl); (case hb => (exact ev_; done))) | (apply Ab.Pd.stG; (case hi => rfl); (case hd => rfl))) | (apply Ab.Pd.qs; intro _ _) | (apply Ab.Pd.nxE; (case hE => rfl)) | (apply Ab.Pd.nxR; (case hr => (repeat' (first | exact Ab.Sub.del _ _ | assumption | (apply Ab.Sub.setI; (case hn => simp)) | (apply Ab.Sub.setF; (case hn => exact free_)) | exact (Ab.Sub.del _ _).trans (by assumption))))) | exact ⟨rfl, rfl⟩ | (apply Ab.K.awp; first | (apply AWp.schedS (id := 11) [(0, 1), (1, 1), (2, 0), (3, 0), (4, 0)] [3, 4] [[], [], [0], [0, 1, 2], [0, 1, 2, 3]] [N + 1, N + 2] (by kernel_rfl) (by kernel_rfl) (by kernel_rfl) rfl) | (apply Xg.s; constructor)) | (apply Ab.K.at_; exact at_) | (apply Ab.K.acall; first | assumption | (rw [← hs6]; exact ca)) | (apply Ab.Rg.mk; omega) | (apply Ab.Lt.mk; first | decide | (simp; done) | (simp; omega) | fail) | (apply Ab.Get.mk; first | rfl | fail) | (apply Ab.Nm.mk; first | exact nrm_) | (apply Xg.s; constructor) | (apply Ab.asm; assumption) | rfl | infer_instance | decide))
  try rw [← hs7]
  obtain ⟨s8, hs8⟩ : ∃ s8 : AHeap, s8 = s7.set (M5 + 2) (.cells true 5 [.int .i64 4, .int .i64 cur, .int .i64 0, .int .i64 next, .slice none 0 0]) := ⟨_, rfl⟩
  have I9 : Inv s b s8 b5 := by rw [hs8]; exact I7.boxT T7 (Nat.le_refl _)
  have P8 : Prv s s8 b5 N := by rw [hs8]; exact P7.set
  have P81 : Prv s s8 b5 (N + 1) := by rw [hs8]; exact P71.set
  have P82 : Prv s s8 b5 (N + 2) := by rw [hs8]; exact P72.set
  have P85 : Prv s s8 b5 M5 := by rw [hs8]; exact P75.set
  have hP8 : ∀ o, on = some o → Prv s s8 b5 o := fun o e => by rw [hs8]; exact (hP7 o e).set
  have G8 : Gr s8 5 0 (.slice Bw (frs cur next ns).length (frs cur next ns).length) on (frs cur next ns).length xs := by rw [hs8]; exact G7.set (fun q e => by have := hlt5 q e; omega)
  have T8 : Top (M5 + 2 + 1) s8 := by rw [hs8]; exact T7.new
  have h0 : At s8 N (.cells true 1 (lna last cur prop over yb ys (.slice B yq.length cb) yk next false)) := by rw [hs8]; exact at_
  have h1 : At s8 (N + 1) (.cells true 1 ln00) := by rw [hs8]; exact at_
  have h2 : At s8 (N + 2) (.cells true 1 nw00) := by rw [hs8]; exact at_
  have h5 : At s8 M5 (.cells true 1 [.slice Bw (frs cur next ns).length (frs cur next ns).length, .slice none 0 0, .bool false, .int .i64 0]) := by rw [hs8]; exact at_
  have h7 : At s8 (M5 + 2) (.cells true 5 [.int .i64 4, .int .i64 cur, .int .i64 0, .int .i64 next, .slice none 0 0]) := by rw [hs8]; exact At.hit
  try rw [← hs8]
  clear hs6 hs7 G6 G7 P6 P61 P62 P65 P7 P71 P72 P75 I6 I7 f0 f1 f2 f5 g0 g1 g2 g5


  have hfl : (frs cur next ns).length = ns.length := frs_length
  (apply Ab.O.appendL (M5 + 2 + 1); (case hx => exact ev_); (case hL => exact Ab.Gr.lat (by assumption)); (case hy => exact ev_); (case hs => exact srcAll h7 rfl); (case hk => rfl); (case hm => decide); (case hl => first | rfl | simp); (case hz => decide); (case hb => omega); (case hfree => exact free_))
  intro s9 g
  have IA := I9.grew g (fun q e => ⟨(hP8 q e).z, (hP8 q e).b⟩)
  have PA := P8.grew g (fun q e => (hne q e).1)
  have PA1 := P81.grew g (fun q e => (hne q e).2.1)
  have PA2 := P82.grew g (fun q e => (hne q e).2.2)
  have PA5 := P85.grew g (fun q e => by have := hlt5 q e; omega)
  have k0 := Gr.off g h0 (fun q e => (hne q e).1) (by omega)
  have k1 := Gr.off g h1 (fun q e => (hne q e).2.1) (by omega)
  have k2 := Gr.off g h2 (fun q e => (hne q e).2.2) (by omega)
  have k5 := Gr.off g h5 (fun q e => by have := hlt5 q e; omega) (by omega)
  have CA : Cs 5 (RF b5) (xs ++ [.int .i64 4, .int .i64 cur, .int .i64 0, .int .i64 next, .slice none 0 0]) (frs cur next ns ++ [⟨4, cur, 0, next, []⟩]) := C5.snoc rfl ⟨_, rfl, .nil⟩
  have GA : Gr s9 5 0 _ _ ((frs cur next ns).length + 1) _ := Gr.app g (by rw [CA.len, List.length_append]; rfl) (Nat.zero_le _)
  obtain ⟨bA, IB, hsA, hwA, hpr⟩ := GA.tell2 datF IA (fun o e => by obtain rfl := Option.some.inj e; exact Prv.new I9 g) CA
  have Q0 := hpr N (by simp <;> omega) PA
  have Q1 := hpr (N + 1) (by simp <;> omega) PA1
  have Q2 := hpr (N + 2) (by simp <;> omega) PA2
  have Q5 := hpr M5 (by simp <;> omega) PA5
  have huA := hu8.sub datQ hsA
  clear PA PA1 PA2 PA5 IA I9 P8 P81 P82 P85 G8
  (repeat' (first | (apply Ab.K.ev; exact ev_) | (apply Ab.K.aops; first | (apply Xg.s; constructor) | apply Ab.S.guardG) | (apply Ab.K.aop; first | (apply Og.s; constructor)) | (apply Ab.K.gk; first | (apply Xg.s; constructor) | (apply Ab.gY; case hw => assumption) | (apply Ab.gNT; case hw => assumption) | (apply Ab.gNF; case hw => assumption) | ((first | apply Ab.gD | apply Ab.gDN); all_goals (intro _ _; (first | contradiction | (exfalso; omega) | skip)))) | (apply Ab.K.aopsD; first | (apply Ab.D.q0t; (case hw => rfl); (case hot => rfl)) | (apply Ab.D.w1t; (case hw => rfl); (case hot => rfl)) | (apply Ab.D.q0; (case hw => rfl); intro _ _) | (apply Ab.D.w1n; (case hw => rfl); intro _ _) | (apply Ab.D.w2n; (case hw => rfl); intro _ _) | (apply Xg.s; constructor) | fail | apply Ab.D.guardG) | (apply Ab.K.aopsP; first | apply Ab.Pd.nil | (apply Ab.Pd.q; (case hi => rfl)) | (apply Ab.Pd.z; (case hi => rfl)) | (apply Ab.Pd.zU; (case hi => rfl); (case hd => rfl); (case hb => (exact ev_; done))) | (apply Ab.Pd.zG; (case hi => rfl); (case hd => rfl)) | (apply Ab.Pd.st; (case hi => rfl)) | (apply Ab.Pd.qU; (case hi => rfl); (case hd => rfl); (case hb => (exact ev_; done))) | (apply Ab.Pd.qG; (case hi => rfl); (case hd => rfl)) | (apply Ab.Pd.stU; (case hi => rfl); (case hd => rfl); (case hb => (exact ev_; done))) | (apply Ab.Pd.stG; (case hi => rfl); (case hd => rfl))) | (apply Ab.Pd.qs; intro _ _) | (apply Ab.Pd.nxE; (case hE => rfl)) | (apply Ab.Pd.nxR; (case hr => (repeat' (first | exact Ab.Sub.del _ _ | assumption | (apply Ab.Sub.setI; (case hn => simp)) | (apply Ab.Sub.setF; (case hn => exact free_)) | exact (Ab.Sub.del _ _).trans (by assumption))))) | exact ⟨rfl, rfl⟩ | (apply Ab.K.awp; first | (apply AWp.schedS (id := 11) [(0, 1), (1, 1), (2, 0), (3, 0), (4, 0)] [3, 4] [[], [], [0], [0, 1, 2], [0, 1, 2, 3]] [N + 1, N + 2] (by kernel_rfl) (by kernel_rfl) (by kernel_rfl) rfl) | (apply Xg.s; constructor)) | (apply Ab.K.at_; exact at_) | (apply Ab.K.acall; first | assumption | fail) | (apply Ab.Rg.mk; omega) | (apply Ab.Lt.mk; first | decide | (simp; done) | (simp; omega) | fail) | (apply Ab.Get.mk; first | rfl | fail) | (apply Ab.Nm.mk; first | exact nrm_) | (apply Xg.s; constructor) | (apply Ab.asm; assumption) | rfl | infer_instance | decide))
  all_goals apply RetE.puR (b := bA)
  case I => (repeat' (first | assumption | (apply Ab.Inv.boxP; (case p => (repeat' (first | assumption | apply Ab.Prv.set))))))
  case he => exact evr_
  case hg => rfl
  · exact (LWE.mk (y := ⟨⟨last, cur, prop, over⟩, ⟨yb, ys, yq, yk⟩, ⟨next, false⟩⟩) (n := ⟨frs cur next ns ++ [⟨4, cur, 0, next, []⟩], [], false, 0⟩) ⟨_, rfl, huA⟩ ⟨_, _, rfl, hwA, .nil⟩).1
  · exact (LWE.mk (y := ⟨⟨last, cur, prop, over⟩, ⟨yb, ys, yq, yk⟩, ⟨next, false⟩⟩) (n := ⟨frs cur next ns ++ [⟨4, cur, 0, next, []⟩], [], false, 0⟩) (e := 0) ⟨_, rfl, huA⟩ ⟨_, _, rfl, hwA, .nil⟩).2
set_option maxRecDepth 100000 in
set_option maxHeartbeats 8000000 in
theorem flush28' {s b : AHeap} {last cur prop base clock next : Int} {over owes : Bool} {sent : Nat} {v : Value} {q : List (List Int)} (hb : Sub b s) (h : Qt b v q) (hm : Ln.May ⟨⟨last, cur, prop, over⟩, ⟨base, sent, q, clock⟩, ⟨next, owes⟩⟩) :
    ACallE Try.prog 28 [.agg (lna last cur prop over base sent v clock next owes).toArray] s (Pu s b (LW (lflush ⟨⟨last, cur, prop, over⟩, ⟨base, sent, q, clock⟩, ⟨next, owes⟩⟩).1 (lflush ⟨⟨last, cur, prop, over⟩, ⟨base, sent, q, clock⟩, ⟨next, owes⟩⟩).2)) := by
  have hq : q.length ≤ 256 := hm.1.2.1.1.2.1
  have htm : Tk.May ⟨next, owes⟩ := hm.1.2.2
  refine ACallE.make Try.func28 rfl (by kernel_rfl) (by decide) rfl (fun N hN0 => ?_)
  have hT : Top N s := hN0
  obtain ⟨A, cap, rfl, hcap⟩ := h.isl
  obtain ⟨s1, hs1⟩ : ∃ s1 : AHeap, s1 = ((s.set N (.cells true 1 (lna last cur prop over base sent (.slice A q.length cap) clock next owes))).set (N + 1) (.cells true 1 ln00)).set (N + 2) (.cells true 1 nw00) := ⟨_, rfl⟩
  have I1 : Inv s b s1 b := by rw [hs1]; exact (((Inv.refl hb).boxT hT (Nat.le_refl _)).boxT hT.new (Nat.le_refl _)).boxT hT.new.new (Nat.le_refl _)
  have z : ∀ i, N ≤ i → i < N + 3 → Prv s s1 b i := fun i h1 h2 => ⟨hT.none h1, hb.none (hT.none h1), by
    rw [hs1]
    rcases (show i = N ∨ i = N + 1 ∨ i = N + 2 by omega) with rfl | rfl | rfl
    all_goals simp [AHeap.set]⟩
  have PN := z N (by omega) (by omega)
  have PN1 := z (N + 1) (by omega) (by omega)
  have PN2 := z (N + 2) (by omega) (by omega)
  have T1 : Top (N + 3) s1 := by rw [hs1]; exact hT.new.new.new
  have aN : At s1 N (.cells true 1 (lna last cur prop over base sent (.slice A q.length cap) clock next owes)) := by rw [hs1]; exact at_
  have aN1 : At s1 (N + 1) (.cells true 1 ln00) := by rw [hs1]; exact at_
  have aN2 : At s1 (N + 2) (.cells true 1 nw00) := by rw [hs1]; exact At.hit
  have ct := ready61' I1.sub h hm.1.2.1
  (repeat' (first | (apply Ab.K.ev; exact ev_) | (apply Ab.K.aops; first | (apply Xg.s; constructor) | apply Ab.S.guardG) | (apply Ab.K.aop; first | (first | (apply Ab.O.boxA N; (case hx => exact ev_); (case hid => exact frees_)) | (apply Ab.O.allocA (N + 1); (case hid => exact frees_); (case hp => rfl)) | (apply Ab.O.allocA (N + 2); (case hid => exact frees_); (case hp => rfl)) | (apply Ab.O.callFE; (case ha => exact evs_); (case hc => rw [← hs1]; exact ct))) | (apply Og.s; constructor)) | (apply Ab.K.gk; first | (apply Xg.s; constructor) | (apply Ab.gY; case hw => assumption) | (apply Ab.gNT; case hw => assumption) | (apply Ab.gNF; case hw => assumption) | ((first | apply Ab.gD | apply Ab.gDN); all_goals (intro _ _; (first | contradiction | (exfalso; omega) | skip)))) | (apply Ab.K.aopsD; first | (apply Ab.D.q0t; (case hw => rfl); (case hot => rfl)) | (apply Ab.D.w1t; (case hw => rfl); (case hot => rfl)) | (apply Ab.D.q0; (case hw => rfl); intro _ _) | (apply Ab.D.w1n; (case hw => rfl); intro _ _) | (apply Ab.D.w2n; (case hw => rfl); intro _ _) | (apply Xg.s; constructor) | fail | apply Ab.D.guardG) | (apply Ab.K.aopsP; first | apply Ab.Pd.nil | (apply Ab.Pd.q; (case hi => rfl)) | (apply Ab.Pd.z; (case hi => rfl)) | (apply Ab.Pd.zU; (case hi => rfl); (case hd => rfl); (case hb => (exact ev_; done))) | (apply Ab.Pd.zG; (case hi => rfl); (case hd => rfl)) | (apply Ab.Pd.st; (case hi => rfl)) | (apply Ab.Pd.qU; (case hi => rfl); (case hd => rfl); (case hb => (exact ev_; done))) | (apply Ab.Pd.qG; (case hi => rfl); (case hd => rfl)) | (apply Ab.Pd.stU; (case hi => rfl); (case hd => rfl); (case hb => (exact ev_; done))) | (apply Ab.Pd.stG; (case hi => rfl); (case hd => rfl))) | (apply Ab.Pd.qs; intro _ _) | (apply Ab.Pd.nxE; (case hE => rfl)) | (apply Ab.Pd.nxR; (case hr => (repeat' (first | exact Ab.Sub.del _ _ | assumption | (apply Ab.Sub.setI; (case hn => simp)) | (apply Ab.Sub.setF; (case hn => exact free_)) | exact (Ab.Sub.del _ _).trans (by assumption))))) | exact ⟨rfl, rfl⟩ | (apply Ab.K.awp; first | (apply AWp.schedS (id := 11) [(0, 1), (1, 1), (2, 0), (3, 0), (4, 0)] [3, 4] [[], [], [0], [0, 1, 2], [0, 1, 2, 3]] [N + 1, N + 2] (by kernel_rfl) (by kernel_rfl) (by kernel_rfl) rfl) | (apply AWp.schedS (id := 7) [(0, 1), (1, 1), (2, 0), (3, 0)] [3] [[], [], [0], [0, 1, 2]] [N + 1, N + 2] (by kernel_rfl) (by kernel_rfl) (by kernel_rfl) rfl) | (apply Xg.s; constructor)) | (apply Ab.K.at_; exact at_) | (apply Ab.K.acall; first | assumption | fail) | (apply Ab.Rg.mk; omega) | (apply Ab.Lt.mk; first | decide | (simp; done) | (simp; omega) | fail) | (apply Ab.Get.mk; first | rfl | fail) | (apply Ab.Nm.mk; first | exact nrm_) | (apply Xg.s; constructor) | (apply Ab.asm; assumption) | rfl | infer_instance | decide))
  rintro r s2 ⟨b2, I2, c2, w2, rfl, ⟨v2, rfl, hv2⟩, hw2⟩
  clear ct hs1
  obtain ⟨⟨yb, ys, yq, yk⟩, hy⟩ : ∃ y, y = (readyS ⟨base, sent, q, clock⟩).1 := ⟨_, rfl⟩
  obtain ⟨ns, hns⟩ : ∃ ns, ns = (readyS ⟨base, sent, q, clock⟩).2 := ⟨_, rfl⟩
  have hnl : ns.length ≤ 1000000 := by rw [hns]; exact Nat.le_trans readyS_len.2 (by show q.length ≤ _; omega)
  have hlt : lflush ⟨⟨last, cur, prop, over⟩, ⟨base, sent, q, clock⟩, ⟨next, owes⟩⟩ = (⟨⟨last, cur, prop, over⟩, ⟨yb, ys, yq, yk⟩, ⟨next, false⟩⟩, ⟨if owes = true then frs cur next ns ++ [⟨4, cur, 0, next, []⟩] else frs cur next ns, [], false, 0⟩) := by
    rw [hy, hns]; rfl
  rw [hlt]
  rw [← hy] at hv2 ⊢
  rw [← hns] at hw2
  clear hlt hy hns
  simp only at hv2
  obtain ⟨B, cb, rfl, _⟩ := hv2.isl
  obtain ⟨Bn, cn, rfl, _⟩ := hw2.isl
  obtain ⟨M, hM, T2⟩ := I2.fin _ T1
  have I3 := I1.trans I2
  have P3 := PN.call I2
  have P31 := PN1.call I2
  have P32 := PN2.call I2
  have a3 := I2.kp.at_ aN
  have a31 := I2.kp.at_ aN1
  have a32 := I2.kp.at_ aN2
  obtain ⟨s3, hs3⟩ : ∃ s3 : AHeap, s3 = ((s2.set M (.cells true 1 [.int .i64 0, .int .i64 0, .slice none 0 0, .int .i64 0])).set M (.cells true 1 [.int .i64 yb, .int .i64 ys, .slice B yq.length cb, .int .i64 yk])).set N (.cells true 1 (lna last cur prop over yb ys (.slice B yq.length cb) yk next owes)) := ⟨_, rfl⟩
  have I4 : Inv s b s3 b2 := by rw [hs3]; exact ((I3.boxT T2 (Nat.le_refl _)).boxP (Prv.mk' I3 (T2.none (Nat.le_refl _)))).boxP P3.set.set
  have P4 : Prv s s3 b2 N := by rw [hs3]; (repeat' (first | assumption | apply Ab.Prv.set))
  have P41 : Prv s s3 b2 (N + 1) := by rw [hs3]; (repeat' (first | assumption | apply Ab.Prv.set))
  have P42 : Prv s s3 b2 (N + 2) := by rw [hs3]; (repeat' (first | assumption | apply Ab.Prv.set))
  have T3 : Top (M + 1) s3 := by rw [hs3]; exact (T2.new.set (by omega)).set (by omega)
  have d0 : At s3 N (.cells true 1 (lna last cur prop over yb ys (.slice B yq.length cb) yk next owes)) := by rw [hs3]; exact At.hit
  have d1 : At s3 (N + 1) (.cells true 1 ln00) := by rw [hs3]; exact at_
  have d2 : At s3 (N + 2) (.cells true 1 nw00) := by rw [hs3]; exact at_
  have cd := data62g (last := last) (cur := cur) (prop := prop) (over := over) (base := yb) (sent := ys) (v := .slice B yq.length cb) (clock := yk) (next := next) (owes := owes) I4.sub hw2 hnl

  (repeat' (first | (apply Ab.K.ev; exact ev_) | (apply Ab.K.aops; first | (apply Xg.s; constructor) | apply Ab.S.guardG) | (apply Ab.K.aop; first | (first | (apply Ab.O.allocA M; (case hid => exact T2.free (Nat.le_refl _)); (case hp => rfl)) | (apply Ab.O.callFE; (case ha => exact evs_); (case hc => rw [← hs3]; exact cd))) | (apply Og.s; constructor)) | (apply Ab.K.gk; first | (apply Xg.s; constructor) | (apply Ab.gY; case hw => assumption) | (apply Ab.gNT; case hw => assumption) | (apply Ab.gNF; case hw => assumption) | ((first | apply Ab.gD | apply Ab.gDN); all_goals (intro _ _; (first | contradiction | (exfalso; omega) | skip)))) | (apply Ab.K.aopsD; first | (apply Ab.D.q0t; (case hw => rfl); (case hot => rfl)) | (apply Ab.D.w1t; (case hw => rfl); (case hot => rfl)) | (apply Ab.D.q0; (case hw => rfl); intro _ _) | (apply Ab.D.w1n; (case hw => rfl); intro _ _) | (apply Ab.D.w2n; (case hw => rfl); intro _ _) | (apply Xg.s; constructor) | fail | apply Ab.D.guardG) | (apply Ab.K.aopsP; first | apply Ab.Pd.nil | (apply Ab.Pd.q; (case hi => rfl)) | (apply Ab.Pd.z; (case hi => rfl)) | (apply Ab.Pd.zU; (case hi => rfl); (case hd => rfl); (case hb => (exact ev_; done))) | (apply Ab.Pd.zG; (case hi => rfl); (case hd => rfl)) | (apply Ab.Pd.st; (case hi => rfl)) | (apply Ab.Pd.qU; (case hi => rfl); (case hd => rfl); (case hb => (exact ev_; done))) | (apply Ab.Pd.qG; (case hi => rfl); (case hd => rfl)) | (apply Ab.Pd.stU; (case hi => rfl); (case hd => rfl); (case hb => (exact ev_; done))) | (apply Ab.Pd.stG; (case hi => rfl); (case hd => rfl))) | (apply Ab.Pd.qs; intro _ _) | (apply Ab.Pd.nxE; (case hE => rfl)) | (apply Ab.Pd.nxR; (case hr => (repeat' (first | exact Ab.Sub.del _ _ | assumption | (apply Ab.Sub.setI; (case hn => simp)) | (apply Ab.Sub.setF; (case hn => exact free_)) | exact (Ab.Sub.del _ _).trans (by assumption))))) | exact ⟨rfl, rfl⟩ | (apply Ab.K.awp; first | (apply AWp.schedS (id := 11) [(0, 1), (1, 1), (2, 0), (3, 0), (4, 0)] [3, 4] [[], [], [0], [0, 1, 2], [0, 1, 2, 3]] [N + 1, N + 2] (by kernel_rfl) (by kernel_rfl) (by kernel_rfl) rfl) | (apply AWp.schedS (id := 7) [(0, 1), (1, 1), (2, 0), (3, 0)] [3] [[], [], [0], [0, 1, 2]] [N + 1, N + 2] (by kernel_rfl) (by kernel_rfl) (by kernel_rfl) rfl) | (apply Xg.s; constructor)) | (apply Ab.K.at_; exact at_) | (apply Ab.K.acall; first | assumption | fail) | (apply Ab.Rg.mk; omega) | (apply Ab.Lt.mk; first | decide | (simp; done) | (simp; omega) | fail) | (apply Ab.Get.mk; first | rfl | fail) | (apply Ab.Nm.mk; first | exact nrm_) | (apply Xg.s; constructor) | (apply Ab.asm; assumption) | rfl | infer_instance | decide))
  rintro w s5 ⟨b5, on, xs, I5, G5, C5, hP5⟩
  clear cd
  obtain ⟨Bw, rfl⟩ := G5.isl
  obtain ⟨M5, hM5, T5⟩ := I5.fin _ T3
  have hP8 : ∀ o, on = some o → Prv s s5 b5 o := fun o e => ⟨I4.kp.none (hP5 o e).z, (hP5 o e).b, (hP5 o e).s⟩
  have hne : ∀ o, on = some o → o ≠ N ∧ o ≠ N + 1 ∧ o ≠ N + 2 := fun o e => by
    have hz := (hP5 o e).z
    refine ⟨fun e => ?_, fun e => ?_, fun e => ?_⟩ <;> rw [e] at hz
    · rw [d0.eq] at hz; cases hz
    · rw [d1.eq] at hz; cases hz
    · rw [d2.eq] at hz; cases hz
  have hlt5 := G5.lt T5
  have I8 := I4.trans I5
  have P8 := P4.call I5
  have P81 := P41.call I5
  have P82 := P42.call I5
  have a8 := I5.kp.at_ d0
  have a81 := I5.kp.at_ d1
  have a82 := I5.kp.at_ d2
  have hu8 := hv2.sub datQ I5.old
  clear hs3 d0 d1 d2 P4 P41 P42 P3 P31 P32 a3 a31 a32 I3 aN aN1 aN2 PN PN1 PN2 z hP5
  obtain ⟨s6, hs6⟩ : ∃ s6 : AHeap, s6 = (s5.set M5 (.cells true 1 nw00)).set M5 (.cells true 1 [.slice Bw (frs cur next ns).length (frs cur next ns).length, .slice none 0 0, .bool false, .int .i64 0]) := ⟨_, rfl⟩
  have I6 : Inv s b s6 b5 := by rw [hs6]; exact (I8.boxT T5 (Nat.le_refl _)).boxP (Prv.mk' I8 (T5.none (Nat.le_refl _)))
  have P6 : Prv s s6 b5 N := by rw [hs6]; (repeat' (first | assumption | apply Ab.Prv.set))
  have P61 : Prv s s6 b5 (N + 1) := by rw [hs6]; (repeat' (first | assumption | apply Ab.Prv.set))
  have P62 : Prv s s6 b5 (N + 2) := by rw [hs6]; (repeat' (first | assumption | apply Ab.Prv.set))
  have P65 : Prv s s6 b5 M5 := by rw [hs6]; exact (Prv.mk' I8 (T5.none (Nat.le_refl _))).set
  have hP6 : ∀ o, on = some o → Prv s s6 b5 o := fun o e => by rw [hs6]; exact (hP8 o e).set.set
  have G6 : Gr s6 5 0 (.slice Bw (frs cur next ns).length (frs cur next ns).length) on (frs cur next ns).length xs := by rw [hs6]; exact (G5.set (fun q e => by have := hlt5 q e; omega)).set (fun q e => by have := hlt5 q e; omega)
  have T6 : Top (M5 + 1) s6 := by rw [hs6]; exact T5.new.set (by omega)
  have f0 : At s6 N (.cells true 1 (lna last cur prop over yb ys (.slice B yq.length cb) yk next owes)) := by rw [hs6]; exact at_
  have f1 : At s6 (N + 1) (.cells true 1 ln00) := by rw [hs6]; exact at_
  have f2 : At s6 (N + 2) (.cells true 1 nw00) := by rw [hs6]; exact at_
  have f5 : At s6 M5 (.cells true 1 [.slice Bw (frs cur next ns).length (frs cur next ns).length, .slice none 0 0, .bool false, .int .i64 0]) := by rw [hs6]; exact At.hit
  clear G5 hP8 P8 P81 P82
  obtain ⟨s7, hs7⟩ : ∃ s7 : AHeap, s7 = s6.set N (.cells true 1 (lna last cur prop over yb ys (.slice B yq.length cb) yk next false)) := ⟨_, rfl⟩
  have I7 : Inv s b s7 b5 := by rw [hs7]; exact I6.boxP P6
  have P7 : Prv s s7 b5 N := by rw [hs7]; (repeat' (first | assumption | apply Ab.Prv.set))
  have P71 : Prv s s7 b5 (N + 1) := by rw [hs7]; (repeat' (first | assumption | apply Ab.Prv.set))
  have P72 : Prv s s7 b5 (N + 2) := by rw [hs7]; (repeat' (first | assumption | apply Ab.Prv.set))
  have P75 : Prv s s7 b5 M5 := by rw [hs7]; (repeat' (first | assumption | apply Ab.Prv.set))
  have hP7 : ∀ o, on = some o → Prv s s7 b5 o := fun o e => by rw [hs7]; exact (hP6 o e).set
  have G7 : Gr s7 5 0 (.slice Bw (frs cur next ns).length (frs cur next ns).length) on (frs cur next ns).length xs := by rw [hs7]; exact G6.set (fun q e => (hne q e).1)
  have T7 : Top (M5 + 1) s7 := by rw [hs7]; exact T6.set (by omega)
  have g0 : At s7 N (.cells true 1 (lna last cur prop over yb ys (.slice B yq.length cb) yk next false)) := by rw [hs7]; exact At.hit
  have g1 : At s7 (N + 1) (.cells true 1 ln00) := by rw [hs7]; exact at_
  have g2 : At s7 (N + 2) (.cells true 1 nw00) := by rw [hs7]; exact at_
  have g5 : At s7 M5 (.cells true 1 [.slice Bw (frs cur next ns).length (frs cur next ns).length, .slice none 0 0, .bool false, .int .i64 0]) := by rw [hs7]; exact at_
  cases owes
  case false =>
    rw [if_neg (show ¬ false = true by simp)]
    obtain ⟨b9, I9, hs9, hw9, hpr⟩ := G6.tell2 datF I6 hP6 C5
    have Q0 := hpr N (fun e => (hne N e).1 rfl) P6
    have Q1 := hpr (N + 1) (fun e => (hne (N + 1) e).2.1 rfl) P61
    have Q2 := hpr (N + 2) (fun e => (hne (N + 2) e).2.2 rfl) P62
    have Q5 := hpr M5 (fun e => by have := hlt5 M5 e; omega) P65
    have hu9 := hu8.sub datQ hs9
    clear P6 P61 P62 P65 P7 P71 P72 P75 I6 I7 I8 G6 G7 hs7

    (repeat' (first | (apply Ab.K.ev; exact ev_) | (apply Ab.K.aops; first | (apply Xg.s; constructor) | apply Ab.S.guardG) | (apply Ab.K.aop; first | (first | (apply Ab.O.allocA M5; (case hid => exact T5.free (Nat.le_refl _)); (case hp => rfl))) | (apply Og.s; constructor)) | (apply Ab.K.gk; first | (apply Xg.s; constructor) | (apply Ab.gY; case hw => assumption) | (apply Ab.gNT; case hw => assumption) | (apply Ab.gNF; case hw => assumption) | ((first | apply Ab.gD | apply Ab.gDN); all_goals (intro _ _; (first | contradiction | (exfalso; omega) | skip)))) | (apply Ab.K.aopsD; first | (apply Ab.D.q0t; (case hw => rfl); (case hot => rfl)) | (apply Ab.D.w1t; (case hw => rfl); (case hot => rfl)) | (apply Ab.D.q0; (case hw => rfl); intro _ _) | (apply Ab.D.w1n; (case hw => rfl); intro _ _) | (apply Ab.D.w2n; (case hw => rfl); intro _ _) | (apply Xg.s; constructor) | fail | apply Ab.D.guardG) | (apply Ab.K.aopsP; first | apply Ab.Pd.nil | (apply Ab.Pd.q; (case hi => rfl)) | (apply Ab.Pd.z; (case hi => rfl)) | (apply Ab.Pd.zU; (case hi => rfl); (case hd => rfl); (case hb => (exact ev_; done))) | (apply Ab.Pd.zG; (case hi => rfl); (case hd => rfl)) | (apply Ab.Pd.st; (case hi => rfl)) | (apply Ab.Pd.qU; (case hi => rfl); (case hd => rfl); (case hb => (exact ev_; done))) | (apply Ab.Pd.qG; (case hi => rfl); (case hd => rfl)) | (apply Ab.Pd.stU; (case hi => rfl); (case hd => rfl); (case hb => (exact ev_; done))) | (apply Ab.Pd.stG; (case hi => rfl); (case hd => rfl))) | (apply Ab.Pd.qs; intro _ _) | (apply Ab.Pd.nxE; (case hE => rfl)) | (apply Ab.Pd.nxR; (case hr => (repeat' (first | exact Ab.Sub.del _ _ | assumption | (apply Ab.Sub.setI; (case hn => simp)) | (apply Ab.Sub.setF; (case hn => exact free_)) | exact (Ab.Sub.del _ _).trans (by assumption))))) | exact ⟨rfl, rfl⟩ | (apply Ab.K.awp; first | (apply AWp.schedS (id := 11) [(0, 1), (1, 1), (2, 0), (3, 0), (4, 0)] [3, 4] [[], [], [0], [0, 1, 2], [0, 1, 2, 3]] [N + 1, N + 2] (by kernel_rfl) (by kernel_rfl) (by kernel_rfl) rfl) | (apply AWp.schedS (id := 7) [(0, 1), (1, 1), (2, 0), (3, 0)] [3] [[], [], [0], [0, 1, 2]] [N + 1, N + 2] (by kernel_rfl) (by kernel_rfl) (by kernel_rfl) rfl) | (apply Xg.s; constructor)) | (apply Ab.K.at_; exact at_) | (apply Ab.K.acall; first | assumption | fail) | (apply Ab.Rg.mk; omega) | (apply Ab.Lt.mk; first | decide | (simp; done) | (simp; omega) | fail) | (apply Ab.Get.mk; first | rfl | fail) | (apply Ab.Nm.mk; first | exact nrm_) | (apply Xg.s; constructor) | (apply Ab.asm; assumption) | rfl | infer_instance | decide))
    all_goals apply RetE.puR (b := b9)
    case I => first | (rw [← hs6]; (repeat' (first | assumption | (apply Ab.Inv.boxP; (case p => (repeat' (first | assumption | apply Ab.Prv.set))))))) | (repeat' (first | assumption | (apply Ab.Inv.boxP; (case p => (repeat' (first | assumption | apply Ab.Prv.set))))))
    case he => exact evr_
    case hg => rfl
    · exact (LW.mk (y := ⟨⟨last, cur, prop, over⟩, ⟨yb, ys, yq, yk⟩, ⟨next, false⟩⟩) (n := ⟨frs cur next ns, [], false, 0⟩) ⟨_, rfl, hu9⟩ ⟨_, _, rfl, hw9, .nil⟩).1
    · exact (LW.mk (y := ⟨⟨last, cur, prop, over⟩, ⟨yb, ys, yq, yk⟩, ⟨next, false⟩⟩) (n := ⟨frs cur next ns, [], false, 0⟩) ⟨_, rfl, hu9⟩ ⟨_, _, rfl, hw9, .nil⟩).2
  rw [if_pos rfl]

  (repeat' (first | (apply Ab.K.ev; exact ev_) | (apply Ab.K.aops; first | (apply Xg.s; constructor) | apply Ab.S.guardG) | (apply Ab.K.aop; first | (first | (apply Ab.O.allocA M5; (case hid => exact T5.free (Nat.le_refl _)); (case hp => rfl)) | (apply Ab.O.build1A (M5 + 1); (case hx => exact ev_); (case hl => rfl); (case hz => exact ⟨rfl, rfl⟩); (case hes => decide); (case hid => first | exact T7.free (Nat.le_refl _) | exact ((T5.new.set (by omega)).set (by omega)).free (Nat.le_refl _)))) | (apply Og.s; constructor)) | (apply Ab.K.gk; first | (apply Xg.s; constructor) | (apply Ab.gY; case hw => assumption) | (apply Ab.gNT; case hw => assumption) | (apply Ab.gNF; case hw => assumption) | ((first | apply Ab.gD | apply Ab.gDN); all_goals (intro _ _; (first | contradiction | (exfalso; omega) | skip)))) | (apply Ab.K.aopsD; first | (apply Ab.D.q0t; (case hw => rfl); (case hot => rfl)) | (apply Ab.D.w1t; (case hw => rfl); (case hot => rfl)) | (apply Ab.D.q0; (case hw => rfl); intro _ _) | (apply Ab.D.w1n; (case hw => rfl); intro _ _) | (apply Ab.D.w2n; (case hw => rfl); intro _ _) | (apply Xg.s; constructor) | fail | apply Ab.D.guardG) | (apply Ab.K.aopsP; first | apply Ab.Pd.nil | (apply Ab.Pd.q; (case hi => rfl)) | (apply Ab.Pd.z; (case hi => rfl)) | (apply Ab.Pd.zU; (case hi => rfl); (case hd => rfl); (case hb => (exact ev_; done))) | (apply Ab.Pd.zG; (case hi => rfl); (case hd => rfl)) | (apply Ab.Pd.st; (case hi => rfl)) | (apply Ab.Pd.qU; (case hi => rfl); (case hd => rfl); (case hb => (exact ev_; done))) | (apply Ab.Pd.qG; (case hi => rfl); (case hd => rfl)) | (apply Ab.Pd.stU; (case hi => rfl); (case hd => rfl); (case hb => (exact ev_; done))) | (apply Ab.Pd.stG; (case hi => rfl); (case hd => rfl))) | (apply Ab.Pd.qs; intro _ _) | (apply Ab.Pd.nxE; (case hE => rfl)) | (apply Ab.Pd.nxR; (case hr => (repeat' (first | exact Ab.Sub.del _ _ | assumption | (apply Ab.Sub.setI; (case hn => simp)) | (apply Ab.Sub.setF; (case hn => exact free_)) | exact (Ab.Sub.del _ _).trans (by assumption))))) | exact ⟨rfl, rfl⟩ | (apply Ab.K.awp; first | (apply AWp.schedS (id := 11) [(0, 1), (1, 1), (2, 0), (3, 0), (4, 0)] [3, 4] [[], [], [0], [0, 1, 2], [0, 1, 2, 3]] [N + 1, N + 2] (by kernel_rfl) (by kernel_rfl) (by kernel_rfl) rfl) | (apply AWp.schedS (id := 7) [(0, 1), (1, 1), (2, 0), (3, 0)] [3] [[], [], [0], [0, 1, 2]] [N + 1, N + 2] (by kernel_rfl) (by kernel_rfl) (by kernel_rfl) rfl) | (apply Xg.s; constructor)) | (apply Ab.K.at_; exact at_) | (apply Ab.K.acall; first | assumption | fail) | (apply Ab.Rg.mk; omega) | (apply Ab.Lt.mk; first | decide | (simp; done) | (simp; omega) | fail) | (apply Ab.Get.mk; first | rfl | fail) | (apply Ab.Nm.mk; first | exact nrm_) | (apply Xg.s; constructor) | (apply Ab.asm; assumption) | rfl | infer_instance | decide))
  try rw [← hs6, ← hs7]
  obtain ⟨s8, hs8⟩ : ∃ s8 : AHeap, s8 = s7.set (M5 + 1) (.cells true 5 [.int .i64 4, .int .i64 cur, .int .i64 0, .int .i64 next, .slice none 0 0]) := ⟨_, rfl⟩
  have I9 : Inv s b s8 b5 := by rw [hs8]; exact I7.boxT T7 (Nat.le_refl _)
  have P8 : Prv s s8 b5 N := by rw [hs8]; exact P7.set
  have P81 : Prv s s8 b5 (N + 1) := by rw [hs8]; exact P71.set
  have P82 : Prv s s8 b5 (N + 2) := by rw [hs8]; exact P72.set
  have P85 : Prv s s8 b5 M5 := by rw [hs8]; exact P75.set
  have hP8 : ∀ o, on = some o → Prv s s8 b5 o := fun o e => by rw [hs8]; exact (hP7 o e).set
  have G8 : Gr s8 5 0 (.slice Bw (frs cur next ns).length (frs cur next ns).length) on (frs cur next ns).length xs := by rw [hs8]; exact G7.set (fun q e => by have := hlt5 q e; omega)
  have T8 : Top (M5 + 1 + 1) s8 := by rw [hs8]; exact T7.new
  have h0 : At s8 N (.cells true 1 (lna last cur prop over yb ys (.slice B yq.length cb) yk next false)) := by rw [hs8]; exact at_
  have h1 : At s8 (N + 1) (.cells true 1 ln00) := by rw [hs8]; exact at_
  have h2 : At s8 (N + 2) (.cells true 1 nw00) := by rw [hs8]; exact at_
  have h5 : At s8 M5 (.cells true 1 [.slice Bw (frs cur next ns).length (frs cur next ns).length, .slice none 0 0, .bool false, .int .i64 0]) := by rw [hs8]; exact at_
  have h7 : At s8 (M5 + 1) (.cells true 5 [.int .i64 4, .int .i64 cur, .int .i64 0, .int .i64 next, .slice none 0 0]) := by rw [hs8]; exact At.hit
  try rw [← hs8]
  clear hs6 hs7 G6 G7 P6 P61 P62 P65 P7 P71 P72 P75 I6 I7 f0 f1 f2 f5 g0 g1 g2 g5


  have hfl : (frs cur next ns).length = ns.length := frs_length
  (apply Ab.O.appendL (M5 + 1 + 1); (case hx => exact ev_); (case hL => exact Ab.Gr.lat (by assumption)); (case hy => exact ev_); (case hs => exact srcAll h7 rfl); (case hk => rfl); (case hm => decide); (case hl => first | rfl | simp); (case hz => decide); (case hb => omega); (case hfree => exact free_))
  intro s9 g
  have IA := I9.grew g (fun q e => ⟨(hP8 q e).z, (hP8 q e).b⟩)
  have PA := P8.grew g (fun q e => (hne q e).1)
  have PA1 := P81.grew g (fun q e => (hne q e).2.1)
  have PA2 := P82.grew g (fun q e => (hne q e).2.2)
  have PA5 := P85.grew g (fun q e => by have := hlt5 q e; omega)
  have k0 := Gr.off g h0 (fun q e => (hne q e).1) (by omega)
  have k1 := Gr.off g h1 (fun q e => (hne q e).2.1) (by omega)
  have k2 := Gr.off g h2 (fun q e => (hne q e).2.2) (by omega)
  have k5 := Gr.off g h5 (fun q e => by have := hlt5 q e; omega) (by omega)
  have CA : Cs 5 (RF b5) (xs ++ [.int .i64 4, .int .i64 cur, .int .i64 0, .int .i64 next, .slice none 0 0]) (frs cur next ns ++ [⟨4, cur, 0, next, []⟩]) := C5.snoc rfl ⟨_, rfl, .nil⟩
  have GA : Gr s9 5 0 _ _ ((frs cur next ns).length + 1) _ := Gr.app g (by rw [CA.len, List.length_append]; rfl) (Nat.zero_le _)
  obtain ⟨bA, IB, hsA, hwA, hpr⟩ := GA.tell2 datF IA (fun o e => by obtain rfl := Option.some.inj e; exact Prv.new I9 g) CA
  have Q0 := hpr N (by simp <;> omega) PA
  have Q1 := hpr (N + 1) (by simp <;> omega) PA1
  have Q2 := hpr (N + 2) (by simp <;> omega) PA2
  have Q5 := hpr M5 (by simp <;> omega) PA5
  have huA := hu8.sub datQ hsA
  clear PA PA1 PA2 PA5 IA I9 P8 P81 P82 P85 G8
  (repeat' (first | (apply Ab.K.ev; exact ev_) | (apply Ab.K.aops; first | (apply Xg.s; constructor) | apply Ab.S.guardG) | (apply Ab.K.aop; first | (apply Og.s; constructor)) | (apply Ab.K.gk; first | (apply Xg.s; constructor) | (apply Ab.gY; case hw => assumption) | (apply Ab.gNT; case hw => assumption) | (apply Ab.gNF; case hw => assumption) | ((first | apply Ab.gD | apply Ab.gDN); all_goals (intro _ _; (first | contradiction | (exfalso; omega) | skip)))) | (apply Ab.K.aopsD; first | (apply Ab.D.q0t; (case hw => rfl); (case hot => rfl)) | (apply Ab.D.w1t; (case hw => rfl); (case hot => rfl)) | (apply Ab.D.q0; (case hw => rfl); intro _ _) | (apply Ab.D.w1n; (case hw => rfl); intro _ _) | (apply Ab.D.w2n; (case hw => rfl); intro _ _) | (apply Xg.s; constructor) | fail | apply Ab.D.guardG) | (apply Ab.K.aopsP; first | apply Ab.Pd.nil | (apply Ab.Pd.q; (case hi => rfl)) | (apply Ab.Pd.z; (case hi => rfl)) | (apply Ab.Pd.zU; (case hi => rfl); (case hd => rfl); (case hb => (exact ev_; done))) | (apply Ab.Pd.zG; (case hi => rfl); (case hd => rfl)) | (apply Ab.Pd.st; (case hi => rfl)) | (apply Ab.Pd.qU; (case hi => rfl); (case hd => rfl); (case hb => (exact ev_; done))) | (apply Ab.Pd.qG; (case hi => rfl); (case hd => rfl)) | (apply Ab.Pd.stU; (case hi => rfl); (case hd => rfl); (case hb => (exact ev_; done))) | (apply Ab.Pd.stG; (case hi => rfl); (case hd => rfl))) | (apply Ab.Pd.qs; intro _ _) | (apply Ab.Pd.nxE; (case hE => rfl)) | (apply Ab.Pd.nxR; (case hr => (repeat' (first | exact Ab.Sub.del _ _ | assumption | (apply Ab.Sub.setI; (case hn => simp)) | (apply Ab.Sub.setF; (case hn => exact free_)) | exact (Ab.Sub.del _ _).trans (by assumption))))) | exact ⟨rfl, rfl⟩ | (apply Ab.K.awp; first | (apply AWp.schedS (id := 11) [(0, 1), (1, 1), (2, 0), (3, 0), (4, 0)] [3, 4] [[], [], [0], [0, 1, 2], [0, 1, 2, 3]] [N + 1, N + 2] (by kernel_rfl) (by kernel_rfl) (by kernel_rfl) rfl) | (apply AWp.schedS (id := 7) [(0, 1), (1, 1), (2, 0), (3, 0)] [3] [[], [], [0], [0, 1, 2]] [N + 1, N + 2] (by kernel_rfl) (by kernel_rfl) (by kernel_rfl) rfl) | (apply Xg.s; constructor)) | (apply Ab.K.at_; exact at_) | (apply Ab.K.acall; first | assumption | fail) | (apply Ab.Rg.mk; omega) | (apply Ab.Lt.mk; first | decide | (simp; done) | (simp; omega) | fail) | (apply Ab.Get.mk; first | rfl | fail) | (apply Ab.Nm.mk; first | exact nrm_) | (apply Xg.s; constructor) | (apply Ab.asm; assumption) | rfl | infer_instance | decide))
  all_goals apply RetE.puR (b := bA)
  case I => (repeat' (first | assumption | (apply Ab.Inv.boxP; (case p => (repeat' (first | assumption | apply Ab.Prv.set))))))
  case he => exact evr_
  case hg => rfl
  · exact (LW.mk (y := ⟨⟨last, cur, prop, over⟩, ⟨yb, ys, yq, yk⟩, ⟨next, false⟩⟩) (n := ⟨frs cur next ns ++ [⟨4, cur, 0, next, []⟩], [], false, 0⟩) ⟨_, rfl, huA⟩ ⟨_, _, rfl, hwA, .nil⟩).1
  · exact (LW.mk (y := ⟨⟨last, cur, prop, over⟩, ⟨yb, ys, yq, yk⟩, ⟨next, false⟩⟩) (n := ⟨frs cur next ns ++ [⟨4, cur, 0, next, []⟩], [], false, 0⟩) ⟨_, rfl, huA⟩ ⟨_, _, rfl, hwA, .nil⟩).2
end Go.Proofs.Ytoiplbackllgfaa

/- lines: what is refused; the small question. -/
namespace Go.Proofs.Ytoiplbackllgfaa
set_option linter.unusedVariables false
set_option linter.unusedSimpArgs false
set_option linter.unusedSectionVars false
open Go.RowKit Ab HP
attribute [local irreducible] AOps AOpsD AOpsP QStep NX AOp AWp put nargs AHeap.set At Free ACall ACallE thenQ blockQ roundQ RetQ RetE Src Gr
set_option maxRecDepth 100000 in
set_option maxHeartbeats 4000000 in
theorem hearBad {s : AHeap} {last cur prop base sent clock next : Int} {over owes : Bool} {v : Value} {q : List (List Int)} {kind ses seq ack lim : Int} {w : Value} {p : List Int} (h : Qt s v q) (hq : q.length ≤ 1000000000) (hp : Bt s w p) (hx : ¬ (Ln.May ⟨⟨last, cur, prop, over⟩, ⟨base, sent, q, clock⟩, ⟨next, owes⟩⟩ ∧ (1 ≤ lim ∧ lim ≤ 2147483647) ∧ Fm.May ⟨kind, ses, seq, ack, p⟩)) :
    ACall Try.prog 10 [.agg (lna last cur prop over base sent v clock next owes).toArray, .agg #[.int .i64 kind, .int .i64 ses, .int .i64 seq, .int .i64 ack, w], .int .i64 lim] s (.tuple #[.agg ln00.toArray, .agg nw00.toArray, .int .i64 1]) s := by
  refine ACall.make Try.func10 rfl (by kernel_rfl) (by decide) rfl (fun N hN0 => ?_)
  have hT : Top N s := hN0
  obtain ⟨A, cap, rfl, hcap⟩ := h.isl
  obtain ⟨A2, cap2, rfl, hcap2⟩ := hp.isl
  obtain ⟨s1, hs1⟩ : ∃ s1 : AHeap, s1 = (((s.set N (.cells true 1 (lna last cur prop over base sent (.slice A q.length cap) clock next owes))).set (N + 1) (.cells true 1 [.int .i64 kind, .int .i64 ses, .int .i64 seq, .int .i64 ack, .slice A2 p.length cap2])).set (N + 2) (.cells true 1 ln00)).set (N + 3) (.cells true 1 nw00) := ⟨_, rfl⟩
  have F0 : Fr s1 s [] := by rw [hs1]; exact Fr.new (hT.free (by omega)) (Fr.new (hT.free (by omega)) (Fr.new (hT.free (by omega)) (Fr.new (hT.free (Nat.le_refl _)) (Fr.refl _ _))))
  have F1 : Fr ((s1.set (N + 2) (.cells true 1 ln00)).set (N + 3) (.cells true 1 nw00)) s [] := Fr.new (hT.free (by omega)) (Fr.new (hT.free (by omega)) F0)
  have hS : Sub s s1 := fun i c hc => F0 i (by simp) c hc
  have aN : At s1 N (.cells true 1 (lna last cur prop over base sent (.slice A q.length cap) clock next owes)) := by rw [hs1]; exact at_
  have aN1 : At s1 (N + 1) (.cells true 1 [.int .i64 kind, .int .i64 ses, .int .i64 seq, .int .i64 ack, .slice A2 p.length cap2]) := by rw [hs1]; exact at_
  have aN2 : At s1 (N + 2) (.cells true 1 ln00) := by rw [hs1]; exact at_
  have aN3 : At s1 (N + 3) (.cells true 1 nw00) := by rw [hs1]; exact At.hit
  have c14 := checkL' (s := s1) (last := last) (cur := cur) (prop := prop) (over := over) (base := base) (sent := sent) (clock := clock) (next := next) (owes := owes) (h.sub datQ hS) hq
  have c32 := checkF' (s := s1) (kind := kind) (ses := ses) (seq := seq) (ack := ack) (hp.bt hS)
  have c31 := count_dec (s := s1) (n := lim)

  by_cases hm : Ln.May ⟨⟨last, cur, prop, over⟩, ⟨base, sent, q, clock⟩, ⟨next, owes⟩⟩
  case neg =>
    rw [if_neg hm] at c14
    (repeat' (first | (apply Ab.K.ev; exact ev_) | (apply Ab.K.aops; first | (apply Xg.s; constructor) | apply Ab.S.guardG) | (apply Ab.K.aop; first | (first | (apply Ab.O.boxA N; (case hx => exact ev_); (case hid => exact frees_)) | (apply Ab.O.boxA (N + 1); (case hx => exact ev_); (case hid => exact frees_)) | (apply Ab.O.allocA (N + 2); (case hid => exact frees_); (case hp => rfl)) | (apply Ab.O.allocA (N + 3); (case hid => exact frees_); (case hp => rfl))) | (apply Og.s; constructor)) | (apply Ab.K.gk; first | (apply Xg.s; constructor) | (apply Ab.gY; case hw => assumption) | (apply Ab.gNT; case hw => assumption) | (apply Ab.gNF; case hw => assumption) | ((first | apply Ab.gD | apply Ab.gDN); all_goals (intro _ _; (first | contradiction | (exfalso; omega) | skip)))) | (apply Ab.K.awp; first | (apply Xg.s; constructor)) | (apply Ab.K.at_; exact at_) | (apply Ab.K.acall; first | assumption | first | exact c32 | exact c31 | (rw [← hs1]; exact c14)) | (apply Ab.Rg.mk; omega) | (apply Ab.Lt.mk; first | decide | (simp; done) | (simp; omega) | fail) | (apply Ab.Get.mk; first | rfl | fail) | (apply Ab.Nm.mk; first | exact nrm_) | (apply Xg.s; constructor) | (apply Ab.asm; assumption) | rfl | infer_instance | decide))
    all_goals ((first | apply RetQ.ret | apply RetQ.normal); (case he => exact evr_); (case hg => rfl))
    all_goals first | rfl | exact Keeps.fr F1 (plR.nm rfl)
  rw [if_pos hm] at c14
  by_cases hli : 1 ≤ lim ∧ lim ≤ 2147483647
  case neg =>
    rw [decide_eq_false hli] at c31
    (repeat' (first | (apply Ab.K.ev; exact ev_) | (apply Ab.K.aops; first | (apply Xg.s; constructor) | apply Ab.S.guardG) | (apply Ab.K.aop; first | (first | (apply Ab.O.boxA N; (case hx => exact ev_); (case hid => exact frees_)) | (apply Ab.O.boxA (N + 1); (case hx => exact ev_); (case hid => exact frees_)) | (apply Ab.O.allocA (N + 2); (case hid => exact frees_); (case hp => rfl)) | (apply Ab.O.allocA (N + 3); (case hid => exact frees_); (case hp => rfl))) | (apply Og.s; constructor)) | (apply Ab.K.gk; first | (apply Xg.s; constructor) | (apply Ab.gY; case hw => assumption) | (apply Ab.gNT; case hw => assumption) | (apply Ab.gNF; case hw => assumption) | ((first | apply Ab.gD | apply Ab.gDN); all_goals (intro _ _; (first | contradiction | (exfalso; omega) | skip)))) | (apply Ab.K.awp; first | (apply Xg.s; constructor)) | (apply Ab.K.at_; exact at_) | (apply Ab.K.acall; first | assumption | first | exact c32 | exact c31 | (rw [← hs1]; exact c14)) | (apply Ab.Rg.mk; omega) | (apply Ab.Lt.mk; first | decide | (simp; done) | (simp; omega) | fail) | (apply Ab.Get.mk; first | rfl | fail) | (apply Ab.Nm.mk; first | exact nrm_) | (apply Xg.s; constructor) | (apply Ab.asm; assumption) | rfl | infer_instance | decide))
    all_goals ((first | apply RetQ.ret | apply RetQ.normal); (case he => exact evr_); (case hg => rfl))
    all_goals first | rfl | exact Keeps.fr F1 (plR.nm rfl)
  rw [decide_eq_true hli] at c31
  rw [if_neg (fun e => hx ⟨hm, hli, e⟩)] at c32
  (repeat' (first | (apply Ab.K.ev; exact ev_) | (apply Ab.K.aops; first | (apply Xg.s; constructor) | apply Ab.S.guardG) | (apply Ab.K.aop; first | (first | (apply Ab.O.boxA N; (case hx => exact ev_); (case hid => exact frees_)) | (apply Ab.O.boxA (N + 1); (case hx => exact ev_); (case hid => exact frees_)) | (apply Ab.O.allocA (N + 2); (case hid => exact frees_); (case hp => rfl)) | (apply Ab.O.allocA (N + 3); (case hid => exact frees_); (case hp => rfl))) | (apply Og.s; constructor)) | (apply Ab.K.gk; first | (apply Xg.s; constructor) | (apply Ab.gY; case hw => assumption) | (apply Ab.gNT; case hw => assumption) | (apply Ab.gNF; case hw => assumption) | ((first | apply Ab.gD | apply Ab.gDN); all_goals (intro _ _; (first | contradiction | (exfalso; omega) | skip)))) | (apply Ab.K.awp; first | (apply Xg.s; constructor)) | (apply Ab.K.at_; exact at_) | (apply Ab.K.acall; first | assumption | first | exact c32 | exact c31 | (rw [← hs1]; exact c14)) | (apply Ab.Rg.mk; omega) | (apply Ab.Lt.mk; first | decide | (simp; done) | (simp; omega) | fail) | (apply Ab.Get.mk; first | rfl | fail) | (apply Ab.Nm.mk; first | exact nrm_) | (apply Xg.s; constructor) | (apply Ab.asm; assumption) | rfl | infer_instance | decide))
  all_goals ((first | apply RetQ.ret | apply RetQ.normal); (case he => exact evr_); (case hg => rfl))
  all_goals first | rfl | exact Keeps.fr F1 (plR.nm rfl)
/-- Is nothing told but an error? -/
theorem bad15 {s : AHeap} : ACall Try.prog 15 [.agg ln00.toArray, .agg nw00.toArray, .int .i64 1] s (.bool true) s := by
  refine ACall.make Try.func15 rfl (by kernel_rfl) (by decide) rfl (fun N hN0 => ?_)
  have hT : Top N s := hN0
  have c17 : ∀ s : AHeap, ACall Try.prog 17 [.agg ln00.toArray, .agg ln00.toArray] s (.bool true) s := fun s => by
    have := same17 (s := s) (x := ⟨⟨0, 0, 0, false⟩, sd0, tk0⟩) (y := ⟨⟨0, 0, 0, false⟩, sd0, tk0⟩) (RL.h _ s) (RL.h _ s) (by simp [sd0]) (by simp [sd0])
    rw [decide_eq_true rfl] at this; exact this
  have c18 : ∀ s : AHeap, ACall Try.prog 18 [.agg nw00.toArray, .agg nw00.toArray] s (.bool true) s := fun s => by
    have := news18 (s := s) (RW.zero s) (RW.zero s) (by simp [nw0]) (by simp [nw0]) (by simp [nw0]) (by simp [nw0])
    rw [decide_eq_true rfl] at this; exact this
  (repeat' (first | (apply Ab.K.ev; exact ev_) | (apply Ab.K.aops; first | (apply Xg.s; constructor) | apply Ab.S.guardG) | (apply Ab.K.aop; first | (first | (apply Ab.O.boxA N; (case hx => exact ev_); (case hid => exact frees_)) | (apply Ab.O.boxA (N + 1); (case hx => exact ev_); (case hid => exact frees_))) | (apply Og.s; constructor)) | (apply Ab.K.gk; first | (apply Xg.s; constructor) | (apply Ab.gY; case hw => assumption) | (apply Ab.gNT; case hw => assumption) | (apply Ab.gNF; case hw => assumption) | ((first | apply Ab.gD | apply Ab.gDN); all_goals (intro _ _; (first | contradiction | (exfalso; omega) | skip)))) | (apply Ab.K.awp; first | (apply Xg.s; constructor)) | (apply Ab.K.at_; exact at_) | (apply Ab.K.acall; first | assumption | first | exact c17 _ | exact c18 _) | (apply Ab.Rg.mk; omega) | (apply Ab.Lt.mk; first | decide | (simp; done) | (simp; omega) | fail) | (apply Ab.Get.mk; first | rfl | fail) | (apply Ab.Nm.mk; first | exact nrm_) | (apply Xg.s; constructor) | (apply Ab.asm; assumption) | rfl | infer_instance | decide))
  all_goals ((first | apply RetQ.ret | apply RetQ.normal); (case he => exact evr_); (case hg => rfl))
  all_goals first | rfl | (apply Keeps.fr; (case h => exact fr_); (case hv => exact plR.nm rfl))
set_option maxHeartbeats 4000000 in
theorem awake9 {s : AHeap} : ACall Try.prog 9 [] s (.bool true) s := by
  refine ACall.make Try.func9 rfl (by kernel_rfl) (by decide) rfl (fun N hN0 => ?_)
  have hT : Top N s := hN0
  have hz : Sub (fun _ => none) s := fun i c h => by cases h
  obtain ⟨s1, hs1⟩ : ∃ s1 : AHeap, s1 = (((s.set N (.cells true 1 ln00)).set N (.cells true 1 (lna 3 3 0 false 0 0 (.slice none 0 0) 0 0 false))).set (N + 1) (.cells true 1 [.int .u8 120])).set (N + 1) (.cells false 1 [.int .u8 120]) := ⟨_, rfl⟩
  have hb : Sub (AHeap.set (fun _ => none) (N + 1) (.cells false 1 [.int .u8 120])) s1 := fun i c h => by
    by_cases e : i = N + 1
    · subst e; rw [AHeap.set_same] at h; rw [hs1, AHeap.set_same]; exact h
    · rw [AHeap.set_other _ _ e] at h; cases h
  have T1 : Top (N + 2) s1 := by rw [hs1]; exact ((((hT.new.set (by omega)).new).set (by omega)))
  have F1 : Fr s1 s [] := by rw [hs1]; exact Fr.new (hT.free (by omega)) (Fr.new (hT.free (by omega)) (Fr.new (hT.free (by omega)) (Fr.new (hT.free (Nat.le_refl _)) (Fr.refl _ _))))
  have aN : At s1 N (.cells true 1 (lna 3 3 0 false 0 0 (.slice none 0 0) 0 0 false)) := by rw [hs1]; exact at_
  have hp : Bt (AHeap.set (fun _ => none) (N + 1) (.cells false 1 [.int .u8 120])) (.slice (some ⟨N + 1, 0, none⟩) 1 1) [120] := .blk At.hit rfl (Nat.le_refl _) (RB.of (l := [120]) (by intro x hx; rw [List.mem_singleton.1 hx]; omega))
  have hm : Ln.May ⟨⟨3, 3, 0, false⟩, ⟨0, 0, [], 0⟩, ⟨0, false⟩⟩ := by decide
  have c1 := hear10' (lim := 9) hb (.nil : Qt _ (.slice none 0 0) []) hp hm (show Fm.May ⟨3, 3, 0, 0, [120]⟩ by decide) (by omega)
  (repeat' (first | (apply Ab.K.ev; exact ev_) | (apply Ab.K.aops; first | (apply Xg.s; constructor) | apply Ab.S.guardG) | (apply Ab.K.aop; first | (first | (apply Ab.O.allocA N; (case hid => exact hT.free (Nat.le_refl _)); (case hp => rfl)) | (apply Ab.O.build1 (N + 1); (case hx => exact ev_); (case hv => exact ⟨rfl, rfl⟩); (case hz => exact ⟨rfl, rfl⟩); (case hid => exact free_)) | (apply Ab.O.markK; (case hx => exact ev_); (case hs => exact at_); (case hn => decide)) | (apply Ab.O.callFE; (case ha => exact evs_); (case hc => rw [← hs1]; exact c1))) | (apply Og.s; constructor)) | (apply Ab.K.gk; first | (apply Xg.s; constructor) | (apply Ab.gY; case hw => assumption) | (apply Ab.gNT; case hw => assumption) | (apply Ab.gNF; case hw => assumption) | ((first | apply Ab.gD | apply Ab.gDN); all_goals (intro _ _; (first | contradiction | (exfalso; omega) | skip)))) | (apply Ab.K.awp; first | (apply Xg.s; constructor)) | (apply Ab.K.at_; exact at_) | (apply Ab.K.acall; first | assumption | fail) | (apply Ab.Rg.mk; omega) | (apply Ab.Lt.mk; first | decide | (simp; done) | (simp; omega) | fail) | (apply Ab.Get.mk; first | rfl | fail) | (apply Ab.Nm.mk; first | exact nrm_) | (apply Xg.s; constructor) | (apply Ab.asm; assumption) | rfl | infer_instance | decide))
  rintro r s2 ⟨b2, I2, cc, dd, rfl, ⟨v2, rfl, hv2⟩, ⟨vf2, vc2, rfl, hf2, hc2⟩⟩
  clear c1
  have e1 : (lhear ⟨⟨3, 3, 0, false⟩, ⟨0, 0, [], 0⟩, ⟨0, false⟩⟩ ⟨3, 3, 0, 0, [120]⟩ 9).2.came = [[120]] := by decide
  rw [e1] at hc2
  obtain ⟨o, off, c, sp, rw', cs, u, rfl, _, ha, hg, hu⟩ := hc2.qelt (i := 0) rfl
  obtain ⟨Bf, cf, rfl, _⟩ := hf2.isl
  obtain ⟨Bv, cv, rfl, _⟩ := hv2.isl
  obtain ⟨M, hM, T2⟩ := I2.fin _ T1
  have aN2 := I2.kp.at_ aN
  have ao := I2.sub.at_ ha
  have hoM : o < M := T2.lt ao
  obtain ⟨s3, hs3⟩ : ∃ s3 : AHeap, s3 = (((((s2.set M (.cells true 1 ln00)).set (M + 1) (.cells true 1 nw00)).set M (.cells true 1 (lnl (lhear ⟨⟨3, 3, 0, false⟩, ⟨0, 0, [], 0⟩, ⟨0, false⟩⟩ ⟨3, 3, 0, 0, [120]⟩ 9).1.h (lhear ⟨⟨3, 3, 0, false⟩, ⟨0, 0, [], 0⟩, ⟨0, false⟩⟩ ⟨3, 3, 0, 0, [120]⟩ 9).1.s (.slice Bv (lhear ⟨⟨3, 3, 0, false⟩, ⟨0, 0, [], 0⟩, ⟨0, false⟩⟩ ⟨3, 3, 0, 0, [120]⟩ 9).1.s.q.length cv) (lhear ⟨⟨3, 3, 0, false⟩, ⟨0, 0, [], 0⟩, ⟨0, false⟩⟩ ⟨3, 3, 0, 0, [120]⟩ 9).1.t))).set (M + 1) (.cells true 1 [.slice Bf (lhear ⟨⟨3, 3, 0, false⟩, ⟨0, 0, [], 0⟩, ⟨0, false⟩⟩ ⟨3, 3, 0, 0, [120]⟩ 9).2.frames.length cf, .slice (some ⟨o, off, sp⟩) ([[120]] : List (List Int)).length c, .bool (lhear ⟨⟨3, 3, 0, false⟩, ⟨0, 0, [], 0⟩, ⟨0, false⟩⟩ ⟨3, 3, 0, 0, [120]⟩ 9).2.down, .int .i64 (lhear ⟨⟨3, 3, 0, false⟩, ⟨0, 0, [], 0⟩, ⟨0, false⟩⟩ ⟨3, 3, 0, 0, [120]⟩ 9).2.ses])).set (M + 2) (.cells true 1 [.int .u8 120])).set (M + 2) (.cells false 1 [.int .u8 120]) := ⟨_, rfl⟩
  have hb3 : Sub (AHeap.set (fun _ => none) (M + 2) (.cells false 1 [.int .u8 120])) s3 := fun i c h => by
    by_cases e : i = M + 2
    · subst e; rw [AHeap.set_same] at h; rw [hs3, AHeap.set_same]; exact h
    · rw [AHeap.set_other _ _ e] at h; cases h
  have T3 : Top (M + 3) s3 := by rw [hs3]; exact (Top.new (Top.set (Top.set T2.new.new (by omega)) (by omega))).set (by omega)
  have F2 : Fr s2 s [] := fun i hi c hc => I2.kp i c (F1 i hi c hc)
  have F3 : Fr s3 s [] := by
    rw [hs3]
    exact Fr.new (hT.free (by omega)) (Fr.new (hT.free (by omega)) (Fr.new (hT.free (by omega)) (Fr.new (hT.free (by omega)) (Fr.new (hT.free (by omega)) (Fr.new (hT.free (by omega)) F2)))))
  have aN3 : At s3 N (.cells true 1 (lna 3 3 0 false 0 0 (.slice none 0 0) 0 0 false)) := by rw [hs3]; exact at_
  have ao3 : At s3 o (.cells rw' 1 cs) := by rw [hs3]; exact at_
  have aM3 : At s3 (M + 1) (.cells true 1 [.slice Bf (lhear ⟨⟨3, 3, 0, false⟩, ⟨0, 0, [], 0⟩, ⟨0, false⟩⟩ ⟨3, 3, 0, 0, [120]⟩ 9).2.frames.length cf, .slice (some ⟨o, off, sp⟩) ([[120]] : List (List Int)).length c, .bool (lhear ⟨⟨3, 3, 0, false⟩, ⟨0, 0, [], 0⟩, ⟨0, false⟩⟩ ⟨3, 3, 0, 0, [120]⟩ 9).2.down, .int .i64 (lhear ⟨⟨3, 3, 0, false⟩, ⟨0, 0, [], 0⟩, ⟨0, false⟩⟩ ⟨3, 3, 0, 0, [120]⟩ 9).2.ses]) := by rw [hs3]; exact at_
  have hp3 : Bt (AHeap.set (fun _ => none) (M + 2) (.cells false 1 [.int .u8 120])) (.slice (some ⟨M + 2, 0, none⟩) 1 1) [120] := .blk At.hit rfl (Nat.le_refl _) (RB.of (l := [120]) (by intro x hx; rw [List.mem_singleton.1 hx]; omega))
  have hm3 : Ln.May ⟨⟨3, 3, 0, false⟩, ⟨0, 0, [], 0⟩, ⟨0, false⟩⟩ := by decide
  have c2 := hear10' (lim := 9) hb3 (.nil : Qt _ (.slice none 0 0) []) hp3 hm3 (show Fm.May ⟨3, 2, 0, 0, [120]⟩ by decide) (by omega)
  have hu3 : Bt s3 u [120] := hu.bt (fun i c hc => by
    have h2 := I2.sub i c hc
    rw [hs3, AHeap.set_set]
    have hi : i < M := T2.lt (At.var h2)
    rw [AHeap.set_other _ _ (by omega), AHeap.set_other _ _ (by omega), AHeap.set_other _ _ (by omega), AHeap.set_other _ _ (by omega), AHeap.set_other _ _ (by omega)]
    exact h2)
  (repeat' (first | (apply Ab.K.ev; exact ev_) | (apply Ab.K.aops; first | (apply Xg.s; constructor) | apply Ab.S.guardG) | (apply Ab.K.aop; first | (first | (apply Ab.O.allocA M; (case hid => exact T2.free (Nat.le_refl _)); (case hp => rfl)) | (apply Ab.O.allocA (M + 1); (case hid => exact T2.new.free (Nat.le_refl _)); (case hp => rfl)) | (apply Ab.O.build1 (M + 2); (case hx => exact ev_); (case hv => exact ⟨rfl, rfl⟩); (case hz => exact ⟨rfl, rfl⟩); (case hid => exact free_)) | (apply Ab.O.markK; (case hx => exact ev_); (case hs => exact at_); (case hn => decide)) | (apply Ab.O.callFE; (case ha => exact evs_); (case hc => rw [← hs3]; exact c2))) | (apply Og.s; constructor)) | (apply Ab.K.gk; first | (apply Xg.s; constructor) | (apply Ab.gY; case hw => assumption) | (apply Ab.gNT; case hw => assumption) | (apply Ab.gNF; case hw => assumption) | ((first | apply Ab.gD | apply Ab.gDN); all_goals (intro _ _; (first | contradiction | (exfalso; omega) | skip)))) | (apply Ab.K.awp; first | (apply Xg.s; constructor)) | (apply Ab.K.at_; exact at_) | (apply Ab.K.acall; first | assumption | fail) | (apply Ab.Rg.mk; omega) | (apply Ab.Lt.mk; first | decide | (simp; done) | (simp; omega) | fail) | (apply Ab.Get.mk; first | rfl | fail) | (apply Ab.Nm.mk; first | exact nrm_) | (apply Xg.s; constructor) | (apply Ab.asm; assumption) | rfl | infer_instance | decide))
  rintro r s4 ⟨b4, I4, cc, dd, rfl, ⟨v4, rfl, hv4⟩, ⟨vf4, vc4, rfl, hf4, hc4⟩⟩
  clear c2
  have e2 : (lhear ⟨⟨3, 3, 0, false⟩, ⟨0, 0, [], 0⟩, ⟨0, false⟩⟩ ⟨3, 2, 0, 0, [120]⟩ 9).2.came = [] := by decide
  rw [e2] at hc4
  obtain ⟨Bc, c4, rfl, _⟩ := hc4.isl
  obtain ⟨Bf4, cf4, rfl, _⟩ := hf4.isl
  obtain ⟨Bv4, cv4, rfl, _⟩ := hv4.isl
  obtain ⟨M4, hM4, T4⟩ := I4.fin _ T3
  have ao4 := I4.kp.at_ ao3
  have aM4 := I4.kp.at_ aM3
  have F4 : Fr s4 s [] := fun i hi c hc => I4.kp i c (F3 i hi c hc)
  have hu4 := hu3.bt I4.kp
  have hg' : cs[off + ((0 : Int).toNat) * 1]? = some u := hg
  have hst : ∀ t' : AHeap, Sub s4 t' → Bt t' u [120] := fun t' h => hu4.bt h
  have hlit : decide ((strOf [120]).data.toList = (ByteArray.mk #[120]).data.toList) = true := by decide



  (repeat' (first | (apply Ab.K.ev; exact ev_) | (apply Ab.K.aops; first | (apply Xg.s; constructor) | apply Ab.S.guardG) | (apply Ab.K.aop; first | (first | (apply Ab.O.allocA M4; (case hid => exact T4.free (Nat.le_refl _)); (case hp => rfl)) | (apply Ab.O.allocA (M4 + 1); (case hid => exact T4.new.free (Nat.le_refl _)); (case hp => rfl)) | (apply Ab.O.strB; (case hx => exact ev_); (case h => exact hst _ (fun i c hc => by have hi : i < M4 := T4.lt (At.var hc); rw [AHeap.set_other _ _ (by omega), AHeap.set_other _ _ (by omega), AHeap.set_other _ _ (by omega), AHeap.set_other _ _ (by omega)]; exact hc)))) | (apply Ab.O.strEq; (case hx => exact ev_); (case hy => exact ev_); (case h => rw [hlit])) | (apply Og.s; constructor)) | (apply Ab.K.gk; first | (apply Xg.s; constructor) | (apply Ab.gY; case hw => assumption) | (apply Ab.gNT; case hw => assumption) | (apply Ab.gNF; case hw => assumption) | ((first | apply Ab.gD | apply Ab.gDN); all_goals (intro _ _; (first | contradiction | (exfalso; omega) | skip)))) | (apply Ab.K.awp; first | (apply Xg.s; constructor)) | (apply Ab.K.at_; exact at_) | (apply Ab.K.acall; first | assumption | fail) | (apply Ab.Rg.mk; (first | omega | decide)) | (apply Ab.Lt.mk; first | decide | (simp; done) | (simp; omega) | fail) | (apply Ab.Get.mk; first | rfl | (first | rfl | exact hg')) | (apply Ab.Nm.mk; first | exact nrm_) | (apply Xg.s; constructor) | (apply Ab.asm; assumption) | rfl | infer_instance | decide))
  all_goals ((first | apply RetQ.ret | apply RetQ.normal); (case he => exact evr_); (case hg => rfl))
  · rfl
  · exact Keeps.fr (Fr.new (hT.free (by omega)) (Fr.new (hT.free (by omega)) (Fr.new (hT.free (by omega)) (Fr.new (hT.free (by omega)) F4)))) (plR.nm rfl)
end Go.Proofs.Ytoiplbackllgfaa
