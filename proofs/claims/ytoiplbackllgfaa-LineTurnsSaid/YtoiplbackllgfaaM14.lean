/- texts of this claim, one behind the other: LJ, LK, LL, LM. -/
import Derived.Test.YtoiplbackllgfaaM13

/- lines: senders: acks, by the program. -/
namespace Go.Proofs.Ytoiplbackllgfaa
set_option linter.unusedVariables false
set_option linter.unusedSimpArgs false
set_option linter.unusedSectionVars false
open Go.RowKit Ab HP
attribute [local irreducible] AOps AOpsD AOpsP QStep NX AOp AWp put nargs AHeap.set At Free ACall ACallE thenQ blockQ roundQ RetQ RetE Src Gr
set_option maxHeartbeats 4000000 in
theorem ack70' {s b : AHeap} {base sent clock n : Int} {v : Value} {q : List (List Int)} (hb : Sub b s) (h : Qt b v q) (hm : Sd.May ⟨base, sent, q, clock⟩) (hn : 0 ≤ n ∧ n ≤ 2147483647) :
    ACallE Try.prog 70 [.agg #[.int .i64 base, .int .i64 sent, v, .int .i64 clock], .int .i64 n] s (Pu s b (R2 (ackS ⟨base, sent, q, clock⟩ n) 0)) := by
  have hq : q.length ≤ 256 := hm.1.2.1
  have hl : ∀ x ∈ q, x.length ≤ 1000000000 := fun x hx => Nat.le_trans (big_get hm.2 x hx) (by omega)
  have hO := hm.1
  simp only [Sd.Ok] at hO
  refine ACallE.make Try.func70 rfl (by kernel_rfl) (by decide) rfl (fun N hN0 => ?_)
  have hT : Top N s := hN0
  obtain ⟨A, cap, rfl, hcap⟩ := h.isl
  obtain ⟨s1, hs1⟩ : ∃ s1 : AHeap, s1 = (s.set N (.cells true 1 [.int .i64 base, .int .i64 sent, .slice A q.length cap, .int .i64 clock])).set (N + 1) (.cells true 1 [.int .i64 0, .int .i64 0, .slice none 0 0, .int .i64 0]) := ⟨_, rfl⟩
  have I1 : Inv s b s1 b := by rw [hs1]; exact ((Inv.refl hb).boxT hT (Nat.le_refl _)).boxT hT.new (Nat.le_refl _)
  have PN : Prv s s1 b N := by rw [hs1]; exact (Prv.mk' (Inv.refl hb) (hT.none (Nat.le_refl _))).set
  have PN1 : Prv s s1 b (N + 1) := by rw [hs1]; exact Prv.mk' ((Inv.refl hb).boxT hT (Nat.le_refl _)) (hT.new.none (Nat.le_refl _))
  have aN : At s1 N (.cells true 1 [.int .i64 base, .int .i64 sent, .slice A q.length cap, .int .i64 clock]) := by rw [hs1]; exact at_
  have aN1 : At s1 (N + 1) (.cells true 1 [.int .i64 0, .int .i64 0, .slice none 0 0, .int .i64 0]) := by rw [hs1]; exact At.hit
  have c43 := checkS' (s := s1) (base := base) (sent := sent) (clock := clock) (h.sub datQ I1.sub) (by omega)
  rw [if_pos hm] at c43
  have c75 := ownQ I1.sub h (by omega) hl

  (repeat' (first | (apply Ab.K.ev; exact ev_) | (apply Ab.K.aops; first | (apply Xg.s; constructor) | apply Ab.S.guardG) | (apply Ab.K.aop; first | (first | (apply Ab.O.boxA N; (case hx => exact ev_); (case hid => exact frees_)) | (apply Ab.O.allocA (N + 1); (case hid => exact frees_); (case hp => rfl)) | (apply Ab.O.callFE; (case ha => exact evs_); (case hc => exact c75))) | (apply Og.s; constructor)) | (apply Ab.K.gk; first | (apply Xg.s; constructor) | (apply Ab.gY; case hw => assumption) | (apply Ab.gNT; case hw => assumption) | (apply Ab.gNF; case hw => assumption) | ((first | apply Ab.gD | apply Ab.gDN); all_goals (intro _ _; (first | contradiction | (exfalso; omega) | skip)))) | (apply Ab.K.aopsD; first | (apply Ab.D.q0t; (case hw => rfl); (case hot => rfl)) | (apply Ab.D.w1t; (case hw => rfl); (case hot => rfl)) | (apply Ab.D.q0; (case hw => rfl); intro _ _) | (apply Ab.D.w1n; (case hw => rfl); intro _ _) | (apply Ab.D.w2n; (case hw => rfl); intro _ _) | (apply Xg.s; constructor) | fail | apply Ab.D.guardG) | (apply Ab.K.aopsP; first | apply Ab.Pd.nil | (apply Ab.Pd.q; (case hi => rfl)) | (apply Ab.Pd.z; (case hi => rfl)) | (apply Ab.Pd.zU; (case hi => rfl); (case hd => rfl); (case hb => (exact ev_; done))) | (apply Ab.Pd.zG; (case hi => rfl); (case hd => rfl)) | (apply Ab.Pd.st; (case hi => rfl)) | (apply Ab.Pd.qU; (case hi => rfl); (case hd => rfl); (case hb => (exact ev_; done))) | (apply Ab.Pd.qG; (case hi => rfl); (case hd => rfl)) | (apply Ab.Pd.stU; (case hi => rfl); (case hd => rfl); (case hb => (exact ev_; done))) | (apply Ab.Pd.stG; (case hi => rfl); (case hd => rfl))) | (apply Ab.Pd.qs; intro _ _) | (apply Ab.Pd.nxE; (case hE => rfl)) | (apply Ab.Pd.nxR; (case hr => (repeat' (first | exact Ab.Sub.del _ _ | assumption | (apply Ab.Sub.setI; (case hn => simp)) | (apply Ab.Sub.setF; (case hn => exact free_)) | exact (Ab.Sub.del _ _).trans (by assumption))))) | exact ⟨rfl, rfl⟩ | (apply Ab.K.awp; first | (apply AWp.draw (id := 8) [[], [], [1], [], [1, 2, 3], [], [5], [], [], [8], [8, 9], [], [11], [11, 12], [5, 6, 7, 8, 9, 10, 11, 12, 13], [0, 1, 2, 5, 6, 8, 9, 11, 12], [0, 1, 2, 5, 6, 8, 9, 11, 12, 15], [0, 1, 2, 3, 4, 5, 6, 8, 9, 11, 12, 15, 16], [0, 1, 2, 3, 4, 5, 6, 8, 9, 11, 12, 15, 16, 17], [0, 1, 2, 3, 4, 5, 6, 7, 8, 9, 10, 11, 12, 13, 14, 15, 16, 17, 18], [0, 1, 2, 3, 4, 5, 6, 7, 8, 9, 10, 11, 12, 13, 14, 15, 16, 17, 18, 19], [0, 1, 2, 3, 4, 5, 6, 7, 8, 9, 10, 11, 12, 13, 14, 15, 16, 17, 18, 19, 20], [0, 1, 2, 3, 4, 5, 6, 7, 8, 9, 10, 11, 12, 13, 14, 15, 16, 17, 18, 19, 20, 21]] [(16, [N]), (18, [N]), (20, [N]), (22, [N])] (by kernel_rfl) (by kernel_rfl) (by simp [apartW, unordB, cC] <;> omega)) | (apply Xg.s; constructor)) | (apply Ab.K.at_; exact at_) | (apply Ab.K.acall; first | assumption | (rw [← hs1]; exact c43)) | (apply Ab.Rg.mk; omega) | (apply Ab.Lt.mk; first | decide | (simp; done) | (simp; omega) | fail) | (apply Ab.Get.mk; first | rfl | fail) | (apply Ab.Nm.mk; first | exact nrm_) | (apply Xg.s; constructor) | (apply Ab.asm; assumption) | rfl | infer_instance | decide))
  rintro u s3 ⟨b3, I4, hu⟩
  clear c43 c75 hs1
  have I5 := I1.trans I4
  have aN3 := I4.kp.at_ aN
  have aN13 := I4.kp.at_ aN1
  have PN3 := PN.call I4
  have PN13 := PN1.call I4
  obtain ⟨B, c2, rfl, hB⟩ := hu.isl
  clear aN aN1 PN PN1 I1
  by_cases hk : n ≤ base ∨ n - base > sent
  · have hy : ackS ⟨base, sent, q, clock⟩ n = ⟨base, sent, q, clock⟩ := if_pos hk
    rw [hy]
    by_cases hk2 : n ≤ base
    all_goals (repeat' (first | (apply Ab.K.ev; exact ev_) | (apply Ab.K.aops; first | (apply Xg.s; constructor) | apply Ab.S.guardG) | (apply Ab.K.aop; first | (apply Og.s; constructor)) | (apply Ab.K.gk; first | (apply Xg.s; constructor) | (apply Ab.gY; case hw => assumption) | (apply Ab.gNT; case hw => assumption) | (apply Ab.gNF; case hw => assumption) | ((first | apply Ab.gD | apply Ab.gDN); all_goals (intro _ _; (first | contradiction | (exfalso; omega) | skip)))) | (apply Ab.K.aopsD; first | (apply Ab.D.q0t; (case hw => rfl); (case hot => rfl)) | (apply Ab.D.w1t; (case hw => rfl); (case hot => rfl)) | (apply Ab.D.q0; (case hw => rfl); intro _ _) | (apply Ab.D.w1n; (case hw => rfl); intro _ _) | (apply Ab.D.w2n; (case hw => rfl); intro _ _) | (apply Xg.s; constructor) | fail | apply Ab.D.guardG) | (apply Ab.K.aopsP; first | apply Ab.Pd.nil | (apply Ab.Pd.q; (case hi => rfl)) | (apply Ab.Pd.z; (case hi => rfl)) | (apply Ab.Pd.zU; (case hi => rfl); (case hd => rfl); (case hb => (exact ev_; done))) | (apply Ab.Pd.zG; (case hi => rfl); (case hd => rfl)) | (apply Ab.Pd.st; (case hi => rfl)) | (apply Ab.Pd.qU; (case hi => rfl); (case hd => rfl); (case hb => (exact ev_; done))) | (apply Ab.Pd.qG; (case hi => rfl); (case hd => rfl)) | (apply Ab.Pd.stU; (case hi => rfl); (case hd => rfl); (case hb => (exact ev_; done))) | (apply Ab.Pd.stG; (case hi => rfl); (case hd => rfl))) | (apply Ab.Pd.qs; intro _ _) | (apply Ab.Pd.nxE; (case hE => rfl)) | (apply Ab.Pd.nxR; (case hr => (repeat' (first | exact Ab.Sub.del _ _ | assumption | (apply Ab.Sub.setI; (case hn => simp)) | (apply Ab.Sub.setF; (case hn => exact free_)) | exact (Ab.Sub.del _ _).trans (by assumption))))) | exact ⟨rfl, rfl⟩ | (apply Ab.K.awp; first | (apply AWp.draw (id := 8) [[], [], [1], [], [1, 2, 3], [], [5], [], [], [8], [8, 9], [], [11], [11, 12], [5, 6, 7, 8, 9, 10, 11, 12, 13], [0, 1, 2, 5, 6, 8, 9, 11, 12], [0, 1, 2, 5, 6, 8, 9, 11, 12, 15], [0, 1, 2, 3, 4, 5, 6, 8, 9, 11, 12, 15, 16], [0, 1, 2, 3, 4, 5, 6, 8, 9, 11, 12, 15, 16, 17], [0, 1, 2, 3, 4, 5, 6, 7, 8, 9, 10, 11, 12, 13, 14, 15, 16, 17, 18], [0, 1, 2, 3, 4, 5, 6, 7, 8, 9, 10, 11, 12, 13, 14, 15, 16, 17, 18, 19], [0, 1, 2, 3, 4, 5, 6, 7, 8, 9, 10, 11, 12, 13, 14, 15, 16, 17, 18, 19, 20], [0, 1, 2, 3, 4, 5, 6, 7, 8, 9, 10, 11, 12, 13, 14, 15, 16, 17, 18, 19, 20, 21]] [(16, [N]), (18, [N]), (20, [N]), (22, [N])] (by kernel_rfl) (by kernel_rfl) (by simp [apartW, unordB, cC] <;> omega)) | (apply Xg.s; constructor)) | (apply Ab.K.at_; exact at_) | (apply Ab.K.acall; first | assumption | fail) | (apply Ab.Rg.mk; omega) | (apply Ab.Lt.mk; first | decide | (simp; done) | (simp; omega) | fail) | (apply Ab.Get.mk; first | rfl | fail) | (apply Ab.Nm.mk; first | exact nrm_) | (apply Xg.s; constructor) | (apply Ab.asm; assumption) | rfl | infer_instance | decide))
    all_goals apply RetE.puR (b := b3)
    case I => (repeat' (first | assumption | (apply Ab.Inv.boxP; (case p => (repeat' (first | assumption | apply Ab.Prv.set))))))
    case I => (repeat' (first | assumption | (apply Ab.Inv.boxP; (case p => (repeat' (first | assumption | apply Ab.Prv.set))))))
    case he => exact evr_
    case he => exact evr_
    case hg => rfl
    case hg => rfl
    case hq => exact (R2.mk ⟨_, rfl, hu⟩).1
    case hq => exact (R2.mk ⟨_, rfl, hu⟩).1
    all_goals exact (R2.mk (y := ⟨base, sent, q, clock⟩) ⟨_, rfl, hu⟩).2
  · have hq0 : q.length ≠ 0 := by omega
    obtain ⟨o, off, sp, rw', cs, rfl, ab, hx⟩ : ∃ o off sp rw' cs, B = some ⟨o, off, sp⟩ ∧ At b3 o (.cells rw' 1 cs) ∧ Cs 1 (RQ b3) ((cs.drop off).take (q.length * 1)) q := by
      rcases hu.open_ with ⟨_, e⟩ | ⟨o, off, c, sp, rw', cs, e, _, ha, hx⟩
      · exact absurd (by rw [e]; rfl) hq0
      · injection e with e1 e2 e3; exact ⟨o, off, sp, rw', cs, e1, ha, hx⟩
    have ao := I5.sub.at_ ab
    have hoN : o ≠ N := fun e => by subst e; have h2 := PN3.b; rw [ab.eq] at h2; cases h2
    have hcm := hu.cut (n - base).toNat (q.length - (n - base).toNat) (by omega) (some 0) (q.length - (n - base).toNat) (Nat.le_refl _)
    rw [List.take_of_length_le (by rw [List.length_drop]; omega)] at hcm
    replace hcm : Qt b3 (.slice (some ⟨o, off + (n - base).toNat, some 0⟩) ((q.length : Int).toNat - (n - base).toNat) ((q.length : Int).toNat - (n - base).toNat)) (q.drop (n - base).toNat) := by
      rw [Int.toNat_natCast]; rw [Nat.mul_one] at hcm; exact hcm
    have hy : ackS ⟨base, sent, q, clock⟩ n = ⟨n, sent - (n - base), q.drop (n - base).toNat, if sent - (n - base) = 0 then 0 else 4⟩ := if_neg hk
    rw [hy]
    clear hy
    by_cases h0 : sent - (n - base) = 0
    case' pos => rw [if_pos h0]
    case' neg => rw [if_neg h0]
    all_goals (repeat' (first | (apply Ab.K.ev; exact ev_) | (apply Ab.K.aops; first | (apply Xg.s; constructor) | apply Ab.S.guardG) | (apply Ab.K.aop; first | (apply Og.s; constructor)) | (apply Ab.K.gk; first | (apply Xg.s; constructor) | (apply Ab.gY; case hw => assumption) | (apply Ab.gNT; case hw => assumption) | (apply Ab.gNF; case hw => assumption) | ((first | apply Ab.gD | apply Ab.gDN); all_goals (intro _ _; (first | contradiction | (exfalso; omega) | skip)))) | (apply Ab.K.aopsD; first | (apply Ab.D.q0t; (case hw => rfl); (case hot => rfl)) | (apply Ab.D.w1t; (case hw => rfl); (case hot => rfl)) | (apply Ab.D.q0; (case hw => rfl); intro _ _) | (apply Ab.D.w1n; (case hw => rfl); intro _ _) | (apply Ab.D.w2n; (case hw => rfl); intro _ _) | (apply Xg.s; constructor) | fail | apply Ab.D.guardG) | (apply Ab.K.aopsP; first | apply Ab.Pd.nil | (apply Ab.Pd.q; (case hi => rfl)) | (apply Ab.Pd.z; (case hi => rfl)) | (apply Ab.Pd.zU; (case hi => rfl); (case hd => rfl); (case hb => (exact ev_; done))) | (apply Ab.Pd.zG; (case hi => rfl); (case hd => rfl)) | (apply Ab.Pd.st; (case hi => rfl)) | (apply Ab.Pd.qU; (case hi => rfl); (case hd => rfl); (case hb => (exact ev_; done))) | (apply Ab.Pd.qG; (case hi => rfl); (case hd => rfl)) | (apply Ab.Pd.stU; (case hi => rfl); (case hd => rfl); (case hb => (exact ev_; done))) | (apply Ab.Pd.stG; (case hi => rfl); (case hd => rfl))) | (apply Ab.Pd.qs; intro _ _) | (apply Ab.Pd.nxE; (case hE => rfl)) | (apply Ab.Pd.nxR; (case hr => (repeat' (first | exact Ab.Sub.del _ _ | assumption | (apply Ab.Sub.setI; (case hn => simp)) | (apply Ab.Sub.setF; (case hn => exact free_)) | exact (Ab.Sub.del _ _).trans (by assumption))))) | exact ⟨rfl, rfl⟩ | (apply Ab.K.awp; first | (apply AWp.draw (id := 8) [[], [], [1], [], [1, 2, 3], [], [5], [], [], [8], [8, 9], [], [11], [11, 12], [5, 6, 7, 8, 9, 10, 11, 12, 13], [0, 1, 2, 5, 6, 8, 9, 11, 12], [0, 1, 2, 5, 6, 8, 9, 11, 12, 15], [0, 1, 2, 3, 4, 5, 6, 8, 9, 11, 12, 15, 16], [0, 1, 2, 3, 4, 5, 6, 8, 9, 11, 12, 15, 16, 17], [0, 1, 2, 3, 4, 5, 6, 7, 8, 9, 10, 11, 12, 13, 14, 15, 16, 17, 18], [0, 1, 2, 3, 4, 5, 6, 7, 8, 9, 10, 11, 12, 13, 14, 15, 16, 17, 18, 19], [0, 1, 2, 3, 4, 5, 6, 7, 8, 9, 10, 11, 12, 13, 14, 15, 16, 17, 18, 19, 20], [0, 1, 2, 3, 4, 5, 6, 7, 8, 9, 10, 11, 12, 13, 14, 15, 16, 17, 18, 19, 20, 21]] [(16, [N]), (18, [N]), (20, [N]), (22, [N])] (by kernel_rfl) (by kernel_rfl) (by simp [apartW, unordB, cC] <;> omega)) | (apply Xg.s; constructor)) | (apply Ab.K.at_; exact at_) | (apply Ab.K.acall; first | assumption | fail) | (apply Ab.Rg.mk; omega) | (apply Ab.Lt.mk; first | decide | (simp; done) | (simp; omega) | fail) | (apply Ab.Get.mk; first | rfl | fail) | (apply Ab.Nm.mk; first | exact nrm_) | (apply Xg.s; constructor) | (apply Ab.asm; assumption) | rfl | infer_instance | decide))
    all_goals apply RetE.puR (b := b3)
    case I => (repeat' (first | assumption | (apply Ab.Inv.boxP; (case p => (repeat' (first | assumption | apply Ab.Prv.set))))))
    case I => (repeat' (first | assumption | (apply Ab.Inv.boxP; (case p => (repeat' (first | assumption | apply Ab.Prv.set))))))
    case he => exact evr_
    case he => exact evr_
    case hg => rfl
    case hg => rfl
    case hq => exact (R2.mk ⟨_, rfl, hcm⟩).1
    case hq => exact (R2.mk ⟨_, rfl, hcm⟩).1
    · exact (R2.mk (y := ⟨n, sent - (n - base), q.drop (n - base).toNat, _⟩) (e := 0) ⟨_, rfl, hcm⟩).2
    · exact (R2.mk (y := ⟨n, sent - (n - base), q.drop (n - base).toNat, _⟩) (e := 0) ⟨_, rfl, hcm⟩).2
end Go.Proofs.Ytoiplbackllgfaa

/- lines: senders: a payload more, by the document. -/
namespace Go.Proofs.Ytoiplbackllgfaa
set_option linter.unusedVariables false
set_option linter.unusedSimpArgs false
set_option linter.unusedSectionVars false
open Go.RowKit Ab HP
attribute [local irreducible] AOps AOpsD AOpsP QStep NX AOp AWp put nargs AHeap.set At Free ACall ACallE thenQ blockQ roundQ RetQ RetE Src Gr
set_option maxHeartbeats 4000000 in
theorem push55' {s b : AHeap} {base sent clock lim : Int} {v w : Value} {q : List (List Int)} {p : List Int} (hb : Sub b s) (h : Qt b v q) (hp : Bt b w p) (hpl : p.length ≤ 1000000000) (hm : Sd.May ⟨base, sent, q, clock⟩) (hli : 1 ≤ lim ∧ lim ≤ 2147483647) :
    ACallE Try.prog 55 [.agg #[.int .i64 base, .int .i64 sent, v, .int .i64 clock], w, .int .i64 lim] s (Pu s b (R2 (pushS ⟨base, sent, q, clock⟩ p lim) (pushC ⟨base, sent, q, clock⟩ p lim))) := by
  have hq : q.length ≤ 256 := hm.1.2.1
  have hO := hm.1
  simp only [Sd.Ok] at hO
  refine ACallE.make Try.func55 rfl (by kernel_rfl) (by decide) rfl (fun N hN0 => ?_)
  have hT : Top N s := hN0
  obtain ⟨A, cap, rfl, hcap⟩ := h.isl
  obtain ⟨A2, cap2, rfl, hcap2⟩ := hp.isl
  obtain ⟨s1, hs1⟩ : ∃ s1 : AHeap, s1 = (s.set N (.cells true 1 [.int .i64 base, .int .i64 sent, .slice A q.length cap, .int .i64 clock])).set (N + 1) (.cells true 1 [.int .i64 0, .int .i64 0, .slice none 0 0, .int .i64 0]) := ⟨_, rfl⟩
  have I1 : Inv s b s1 b := by rw [hs1]; exact ((Inv.refl hb).boxT hT (Nat.le_refl _)).boxT hT.new (Nat.le_refl _)
  have PN : Prv s s1 b N := by rw [hs1]; exact (Prv.mk' (Inv.refl hb) (hT.none (Nat.le_refl _))).set
  have PN1 : Prv s s1 b (N + 1) := by rw [hs1]; exact Prv.mk' ((Inv.refl hb).boxT hT (Nat.le_refl _)) (hT.new.none (Nat.le_refl _))
  have T1 : Top (N + 2) s1 := by rw [hs1]; exact hT.new.new
  have aN : At s1 N (.cells true 1 [.int .i64 base, .int .i64 sent, .slice A q.length cap, .int .i64 clock]) := by rw [hs1]; exact at_
  have aN1 : At s1 (N + 1) (.cells true 1 [.int .i64 0, .int .i64 0, .slice none 0 0, .int .i64 0]) := by rw [hs1]; exact At.hit
  have c43 := mayS' (s := s1) (base := base) (sent := sent) (clock := clock) (h.sub datQ I1.sub) (by omega)
  rw [decide_eq_true hm] at c43

  by_cases h1 : (p.length : Int) > 16384
  case pos =>
    have hc : pushC ⟨base, sent, q, clock⟩ p lim = 3 := by unfold pushC; rw [if_pos (by omega)]
    rw [show pushS ⟨base, sent, q, clock⟩ p lim = ⟨0, 0, [], 0⟩ by unfold pushS; rw [hc]; rfl, hc]
    (repeat' (first | (apply Ab.K.ev; exact ev_) | (apply Ab.K.aops; first | (apply Xg.s; constructor) | apply Ab.S.guardG) | (apply Ab.K.aop; first | (first | (apply Ab.O.boxA N; (case hx => exact ev_); (case hid => exact frees_)) | (apply Ab.O.allocA (N + 1); (case hid => exact frees_); (case hp => rfl)) | (apply Ab.O.build0 (N + 2) (te := ⟨.slice 5, 1, 24, .slice none 0 0⟩); (case hz => exact ⟨rfl, rfl⟩); (case hid => exact T1.free (Nat.le_refl _)))) | (apply Og.s; constructor)) | (apply Ab.K.gk; first | (apply Xg.s; constructor) | (apply Ab.gY; case hw => assumption) | (apply Ab.gNT; case hw => assumption) | (apply Ab.gNF; case hw => assumption) | ((first | apply Ab.gD | apply Ab.gDN); all_goals (intro _ _; (first | contradiction | (exfalso; omega) | skip)))) | (apply Ab.K.awp; first | (apply Xg.s; constructor)) | (apply Ab.K.at_; exact at_) | (apply Ab.K.acall; first | assumption | (rw [← hs1]; exact c43)) | (apply Ab.Rg.mk; omega) | (apply Ab.Lt.mk; first | decide | (simp; done) | (simp; omega) | fail) | (apply Ab.Get.mk; first | rfl | fail) | (apply Ab.Nm.mk; first | exact nrm_) | (apply Xg.s; constructor) | (apply Ab.asm; assumption) | rfl | infer_instance | decide))
    all_goals apply RetE.puR (b := b)
    case I => (repeat' (first | assumption | (apply Ab.Inv.boxP; (case p => (repeat' (first | assumption | apply Ab.Prv.set))))))
    case he => exact evr_
    case hg => rfl
    · exact (R2.mk (RS.zero b)).1
    · exact (R2.mk (RS.zero b)).2
  by_cases h2 : (q.length : Int) = 256
  case pos =>
    have hc : pushC ⟨base, sent, q, clock⟩ p lim = 2 := by unfold pushC; rw [if_neg (by omega), if_pos (show q.length = 256 by omega)]
    rw [show pushS ⟨base, sent, q, clock⟩ p lim = ⟨0, 0, [], 0⟩ by unfold pushS; rw [hc]; rfl, hc]
    (repeat' (first | (apply Ab.K.ev; exact ev_) | (apply Ab.K.aops; first | (apply Xg.s; constructor) | apply Ab.S.guardG) | (apply Ab.K.aop; first | (first | (apply Ab.O.boxA N; (case hx => exact ev_); (case hid => exact frees_)) | (apply Ab.O.allocA (N + 1); (case hid => exact frees_); (case hp => rfl)) | (apply Ab.O.build0 (N + 2) (te := ⟨.slice 5, 1, 24, .slice none 0 0⟩); (case hz => exact ⟨rfl, rfl⟩); (case hid => exact T1.free (Nat.le_refl _)))) | (apply Og.s; constructor)) | (apply Ab.K.gk; first | (apply Xg.s; constructor) | (apply Ab.gY; case hw => assumption) | (apply Ab.gNT; case hw => assumption) | (apply Ab.gNF; case hw => assumption) | ((first | apply Ab.gD | apply Ab.gDN); all_goals (intro _ _; (first | contradiction | (exfalso; omega) | skip)))) | (apply Ab.K.awp; first | (apply Xg.s; constructor)) | (apply Ab.K.at_; exact at_) | (apply Ab.K.acall; first | assumption | (rw [← hs1]; exact c43)) | (apply Ab.Rg.mk; omega) | (apply Ab.Lt.mk; first | decide | (simp; done) | (simp; omega) | fail) | (apply Ab.Get.mk; first | rfl | fail) | (apply Ab.Nm.mk; first | exact nrm_) | (apply Xg.s; constructor) | (apply Ab.asm; assumption) | rfl | infer_instance | decide))
    all_goals apply RetE.puR (b := b)
    case I => (repeat' (first | assumption | (apply Ab.Inv.boxP; (case p => (repeat' (first | assumption | apply Ab.Prv.set))))))
    case he => exact evr_
    case hg => rfl
    · exact (R2.mk (RS.zero b)).1
    · exact (R2.mk (RS.zero b)).2
  by_cases h3 : base + q.length ≥ lim
  case pos =>
    have hc : pushC ⟨base, sent, q, clock⟩ p lim = 10 := by unfold pushC; rw [if_neg (by omega), if_neg (show ¬ q.length = 256 by omega), if_pos h3]
    rw [show pushS ⟨base, sent, q, clock⟩ p lim = ⟨0, 0, [], 0⟩ by unfold pushS; rw [hc]; rfl, hc]
    (repeat' (first | (apply Ab.K.ev; exact ev_) | (apply Ab.K.aops; first | (apply Xg.s; constructor) | apply Ab.S.guardG) | (apply Ab.K.aop; first | (first | (apply Ab.O.boxA N; (case hx => exact ev_); (case hid => exact frees_)) | (apply Ab.O.allocA (N + 1); (case hid => exact frees_); (case hp => rfl)) | (apply Ab.O.build0 (N + 2) (te := ⟨.slice 5, 1, 24, .slice none 0 0⟩); (case hz => exact ⟨rfl, rfl⟩); (case hid => exact T1.free (Nat.le_refl _)))) | (apply Og.s; constructor)) | (apply Ab.K.gk; first | (apply Xg.s; constructor) | (apply Ab.gY; case hw => assumption) | (apply Ab.gNT; case hw => assumption) | (apply Ab.gNF; case hw => assumption) | ((first | apply Ab.gD | apply Ab.gDN); all_goals (intro _ _; (first | contradiction | (exfalso; omega) | skip)))) | (apply Ab.K.awp; first | (apply Xg.s; constructor)) | (apply Ab.K.at_; exact at_) | (apply Ab.K.acall; first | assumption | (rw [← hs1]; exact c43)) | (apply Ab.Rg.mk; omega) | (apply Ab.Lt.mk; first | decide | (simp; done) | (simp; omega) | fail) | (apply Ab.Get.mk; first | rfl | fail) | (apply Ab.Nm.mk; first | exact nrm_) | (apply Xg.s; constructor) | (apply Ab.asm; assumption) | rfl | infer_instance | decide))
    all_goals apply RetE.puR (b := b)
    case I => (repeat' (first | assumption | (apply Ab.Inv.boxP; (case p => (repeat' (first | assumption | apply Ab.Prv.set))))))
    case he => exact evr_
    case hg => rfl
    · exact (R2.mk (RS.zero b)).1
    · exact (R2.mk (RS.zero b)).2
  have hc : pushC ⟨base, sent, q, clock⟩ p lim = 0 := by unfold pushC; rw [if_neg (by omega), if_neg (show ¬ q.length = 256 by omega), if_neg h3]
  rw [show pushS ⟨base, sent, q, clock⟩ p lim = ⟨base, sent, q ++ [p], clock⟩ by unfold pushS; rw [if_pos hc], hc]
  (repeat' (first | (apply Ab.K.ev; exact ev_) | (apply Ab.K.aops; first | (apply Xg.s; constructor) | apply Ab.S.guardG) | (apply Ab.K.aop; first | (first | (apply Ab.O.boxA N; (case hx => exact ev_); (case hid => exact frees_)) | (apply Ab.O.allocA (N + 1); (case hid => exact frees_); (case hp => rfl)) | (apply Ab.O.build0 (N + 2) (te := ⟨.slice 5, 1, 24, .slice none 0 0⟩); (case hz => exact ⟨rfl, rfl⟩); (case hid => exact T1.free (Nat.le_refl _)))) | (apply Og.s; constructor)) | (apply Ab.K.gk; first | (apply Xg.s; constructor) | (apply Ab.gY; case hw => assumption) | (apply Ab.gNT; case hw => assumption) | (apply Ab.gNF; case hw => assumption) | ((first | apply Ab.gD | apply Ab.gDN); all_goals (intro _ _; (first | contradiction | (exfalso; omega) | skip)))) | (apply Ab.K.awp; first | (apply Xg.s; constructor)) | (apply Ab.K.at_; exact at_) | (apply Ab.K.acall; first | assumption | (rw [← hs1]; exact c43)) | (apply Ab.Rg.mk; omega) | (apply Ab.Lt.mk; first | decide | (simp; done) | (simp; omega) | fail) | (apply Ab.Get.mk; first | rfl | fail) | (apply Ab.Nm.mk; first | exact nrm_) | (apply Xg.s; constructor) | (apply Ab.asm; assumption) | rfl | infer_instance | decide))
  obtain ⟨s2, hs2⟩ : ∃ s2 : AHeap, s2 = s1.set (N + 2) (.cells true 1 []) := ⟨_, rfl⟩
  rw [← hs2]
  have I2 : Inv s b s2 b := by rw [hs2]; exact I1.boxT T1 (Nat.le_refl _)
  have PN2 : Prv s s2 b N := by rw [hs2]; exact PN.set
  have PN12 : Prv s s2 b (N + 1) := by rw [hs2]; exact PN1.set
  have PN22 : Prv s s2 b (N + 2) := by rw [hs2]; exact Prv.mk' I1 (T1.none (Nat.le_refl _))
  have T2 : Top (N + 3) s2 := by rw [hs2]; exact T1.new
  have aN2 : At s2 N (.cells true 1 [.int .i64 base, .int .i64 sent, .slice A q.length cap, .int .i64 clock]) := by rw [hs2]; exact at_
  have aN12 : At s2 (N + 1) (.cells true 1 [.int .i64 0, .int .i64 0, .slice none 0 0, .int .i64 0]) := by rw [hs2]; exact at_
  have G2 : Gr s2 1 0 (.slice (some ⟨N + 2, 0, none⟩) 0 0) (some (N + 2)) 0 [] := by rw [hs2]; exact Gr.new At.hit rfl (Nat.zero_le _)
  obtain ⟨xs, hsrc, hC⟩ := h.src I2.sub (by decide)
  refine O.appendA (N + 3) (by exact ev_) G2 (by exact ev_) hsrc rfl hC.len (by decide) (by omega) (T2.free (Nat.le_refl _)) (Nat.zero_le _) ?_
  intro v3 on3 s3 a3 G3 _
  clear c43 hs1 hs2 aN aN1 PN PN1 T1
  rw [List.nil_append, Nat.zero_add] at G3
  have h2N : ∀ o, some (N + 2) = some o → o ≠ N ∧ o ≠ N + 1 := fun o e => by obtain rfl := Option.some.inj e; omega
  have hP2 : ∀ o, some (N + 2) = some o → Prv s s2 b o := fun o e => by obtain rfl := Option.some.inj e; exact PN22
  have I3 := a3.inv I2 hP2
  have PN3 := a3.prv PN2 fun o e => (h2N o e).1
  have PN13 := a3.prv PN12 fun o e => (h2N o e).2
  have P3 := a3.own I2 hP2
  have T3 := a3.top T2 (Nat.le_refl _) fun o e => by obtain rfl := Option.some.inj e; omega
  have aN3 := a3.at_ aN2 fun o e => (h2N o e).1
  have aN13 := a3.at_ aN12 fun o e => (h2N o e).2
  have ne3 := a3.ne (fun o e => (h2N o e).1) (show N + 3 ≠ N by omega)
  have ne13 := a3.ne (fun o e => (h2N o e).2) (show N + 3 ≠ N + 1 by omega)
  have hlt := G3.lt T3
  clear aN2 aN12 PN2 PN12 a3 G2
  obtain ⟨B3, rfl⟩ := G3.isl
  (repeat' (first | (apply Ab.K.ev; exact ev_) | (apply Ab.K.aops; first | (apply Xg.s; constructor) | apply Ab.S.guardG) | (apply Ab.K.aop; first | (apply Ab.O.build1 (N + 4); (case hx => exact ev_); (case hv => exact ⟨rfl, rfl⟩); (case hz => exact ⟨rfl, rfl⟩); (case hid => exact free_)) | (apply Og.s; constructor)) | (apply Ab.K.gk; first | (apply Xg.s; constructor) | (apply Ab.gY; case hw => assumption) | (apply Ab.gNT; case hw => assumption) | (apply Ab.gNF; case hw => assumption) | ((first | apply Ab.gD | apply Ab.gDN); all_goals (intro _ _; (first | contradiction | (exfalso; omega) | skip)))) | (apply Ab.K.awp; first | (apply Xg.s; constructor)) | (apply Ab.K.at_; exact at_) | (apply Ab.K.acall; first | assumption | (rw [← hs1]; exact c43)) | (apply Ab.Rg.mk; omega) | (apply Ab.Lt.mk; first | decide | (simp; done) | (simp; omega) | fail) | (apply Ab.Get.mk; first | rfl | fail) | (apply Ab.Nm.mk; first | exact nrm_) | (apply Xg.s; constructor) | (apply Ab.asm; assumption) | rfl | infer_instance | decide))
  have G6 := G3.set (id := N + 4) (b := .cells true 1 [.slice A2 p.length cap2]) (fun q e => by have := hlt q e; omega)
  clear G3

  (apply Ab.O.appendL (N + 5); (case hx => exact ev_); (case hL => exact Ab.Gr.lat (by assumption)); (case hy => exact ev_); (case hs => exact srcAll At.hit rfl); (case hk => rfl); (case hm => decide); (case hl => first | rfl | simp); (case hz => decide); (case hb => omega); (case hfree => exact free_))
  intro s6 g
  have Ib := I3.boxT (c := .cells true 1 [.slice A2 p.length cap2]) T3 (Nat.le_refl _)
  have I9 := Ib.grew g (fun q e => ⟨(P3 q e).z, (P3 q e).b⟩)
  have PN6 := (PN3.set (N := N + 4) (c := .cells true 1 [.slice A2 p.length cap2])).grew g (fun q e => ne3 q e)
  have PN16 := (PN13.set (N := N + 4) (c := .cells true 1 [.slice A2 p.length cap2])).grew g (fun q e => ne13 q e)
  have aN6 := Gr.off g (At.miss (by omega) aN3) (fun q e => ne3 q e) (by omega)
  have aN16 := Gr.off g (At.miss (by omega) aN13) (fun q e => ne13 q e) (by omega)
  have C6 : Cs 1 (RQ b) (xs ++ [.slice A2 p.length cap2]) (q ++ [p]) := hC.snoc rfl ⟨_, rfl, hp⟩
  have G7 : Gr s6 1 0 _ _ (q.length + 1) _ := Gr.app g (by rw [C6.len, List.length_append]; rfl) (Nat.zero_le _)
  obtain ⟨b7, I10, hs7, hw, hpr⟩ := G7.tell2 datQ I9 (fun o e => by obtain rfl := Option.some.inj e; exact Prv.new Ib g) C6
  have PN7 := hpr N (by simp <;> omega) PN6
  have PN17 := hpr (N + 1) (by simp <;> omega) PN16
  clear PN6 PN16 I9
  (repeat' (first | (apply Ab.K.ev; exact ev_) | (apply Ab.K.aops; first | (apply Xg.s; constructor) | apply Ab.S.guardG) | (apply Ab.K.aop; first | (apply Og.s; constructor)) | (apply Ab.K.gk; first | (apply Xg.s; constructor) | (apply Ab.gY; case hw => assumption) | (apply Ab.gNT; case hw => assumption) | (apply Ab.gNF; case hw => assumption) | ((first | apply Ab.gD | apply Ab.gDN); all_goals (intro _ _; (first | contradiction | (exfalso; omega) | skip)))) | (apply Ab.K.awp; first | (apply Xg.s; constructor)) | (apply Ab.K.at_; exact at_) | (apply Ab.K.acall; first | assumption | (rw [← hs1]; exact c43)) | (apply Ab.Rg.mk; omega) | (apply Ab.Lt.mk; first | decide | (simp; done) | (simp; omega) | fail) | (apply Ab.Get.mk; first | rfl | fail) | (apply Ab.Nm.mk; first | exact nrm_) | (apply Xg.s; constructor) | (apply Ab.asm; assumption) | rfl | infer_instance | decide))
  all_goals apply RetE.puR (b := b7)
  case I => (repeat' (first | assumption | (apply Ab.Inv.boxP; (case p => (repeat' (first | assumption | apply Ab.Prv.set))))))
  case he => exact evr_
  case hg => rfl
  · exact (R2.mk ⟨_, rfl, hw⟩).1
  · exact (R2.mk (y := ⟨base, sent, q ++ [p], clock⟩) ⟨_, rfl, hw⟩).2
end Go.Proofs.Ytoiplbackllgfaa

/- lines: senders: acks and ticks, by the document. -/
namespace Go.Proofs.Ytoiplbackllgfaa
set_option linter.unusedVariables false
set_option linter.unusedSimpArgs false
set_option linter.unusedSectionVars false
open Go.RowKit Ab HP
attribute [local irreducible] AOps AOpsD AOpsP QStep NX AOp AWp put nargs AHeap.set At Free ACall ACallE thenQ blockQ roundQ RetQ RetE Src Gr
/-- A sender, what it sends. -/
def RR (y : Sd) (l : List Nb) (r : Value) (b : AHeap) : Prop := ∃ c w, r = .tuple #[.agg c.toArray, w] ∧ RS b c y ∧ Sl b 2 (RN b) w l
theorem RR.mk {y : Sd} {l : List Nb} {b : AHeap} {c : List Value} {w : Value} (h : RS b c y) (k : Sl b 2 (RN b) w l) : RR y l (resV [.agg c.toArray, w]) b ∧ nmR (fun i => (b i).isSome = true) (resV [.agg c.toArray, w]) := by
  refine ⟨⟨c, w, rfl, h, k⟩, ?_⟩
  refine nmT (l := [_, _]) fun x hx => ?_
  simp only [List.mem_cons, List.not_mem_nil, or_false] at hx
  rcases hx with rfl | rfl
  · exact nmG (datS.nm _ _ _ h)
  · exact k.nmB
/-- A sender. -/
def R1 (y : Sd) (r : Value) (b : AHeap) : Prop := ∃ c, r = .agg c.toArray ∧ RS b c y
theorem R1.mk {y : Sd} {b : AHeap} {c : List Value} (h : RS b c y) : R1 y (resV [.agg c.toArray]) b ∧ nmR (fun i => (b i).isSome = true) (resV [.agg c.toArray]) := ⟨⟨c, rfl, h⟩, nmGR (datS.nm _ _ _ h)⟩
set_option maxHeartbeats 4000000 in
theorem tick63' {s b : AHeap} {base clock : Int} {k : Nat} {v : Value} {q : List (List Int)} (hb : Sub b s) (h : Qt b v q) (hm : Sd.May ⟨base, k, q, clock⟩) :
    ACallE Try.prog 63 [.agg #[.int .i64 base, .int .i64 k, v, .int .i64 clock]] s (Pu s b (RR (tickS ⟨base, k, q, clock⟩).1 (tickS ⟨base, k, q, clock⟩).2)) := by
  have hq : q.length ≤ 256 := hm.1.2.1
  have hO := hm.1
  simp only [Sd.Ok] at hO
  refine ACallE.make Try.func63 rfl (by kernel_rfl) (by decide) rfl (fun N hN0 => ?_)
  have hT : Top N s := hN0
  obtain ⟨A, cap, rfl, hcap⟩ := h.isl
  have I1 : Inv s b ((s.set N (.cells true 1 [.int .i64 base, .int .i64 k, .slice A q.length cap, .int .i64 clock])).set (N + 1) (.cells true 1 [.int .i64 0, .int .i64 0, .slice none 0 0, .int .i64 0])) b := ((Inv.refl hb).boxT hT (Nat.le_refl _)).boxT hT.new (Nat.le_refl _)
  have PN : Prv s ((s.set N (.cells true 1 [.int .i64 base, .int .i64 k, .slice A q.length cap, .int .i64 clock])).set (N + 1) (.cells true 1 [.int .i64 0, .int .i64 0, .slice none 0 0, .int .i64 0])) b N := (Prv.mk' (Inv.refl hb) (hT.none (Nat.le_refl _))).set
  have PN1 : Prv s ((s.set N (.cells true 1 [.int .i64 base, .int .i64 k, .slice A q.length cap, .int .i64 clock])).set (N + 1) (.cells true 1 [.int .i64 0, .int .i64 0, .slice none 0 0, .int .i64 0])) b (N + 1) := Prv.mk' ((Inv.refl hb).boxT hT (Nat.le_refl _)) (hT.new.none (Nat.le_refl _))
  by_cases hk : (k : Int) = 0
  · have hy : tickS ⟨base, k, q, clock⟩ = (⟨base, k, q, clock⟩, []) := if_pos hk
    rw [hy]
    (repeat' (first | (apply Ab.K.ev; exact ev_) | (apply Ab.K.aops; first | (apply Xg.s; constructor) | apply Ab.S.guardG) | (apply Ab.K.aop; first | (first | (apply Ab.O.boxA N; (case hx => exact ev_); (case hid => exact frees_)) | (apply Ab.O.allocA (N + 1); (case hid => exact frees_); (case hp => rfl))) | (apply Og.s; constructor)) | (apply Ab.K.gk; first | (apply Xg.s; constructor) | (apply Ab.gY; case hw => assumption) | (apply Ab.gNT; case hw => assumption) | (apply Ab.gNF; case hw => assumption) | ((first | apply Ab.gD | apply Ab.gDN); all_goals (intro _ _; (first | contradiction | (exfalso; omega) | skip)))) | (apply Ab.K.aopsD; first | (apply Ab.D.q0t; (case hw => rfl); (case hot => rfl)) | (apply Ab.D.w1t; (case hw => rfl); (case hot => rfl)) | (apply Ab.D.q0; (case hw => rfl); intro _ _) | (apply Ab.D.w1n; (case hw => rfl); intro _ _) | (apply Ab.D.w2n; (case hw => rfl); intro _ _) | (apply Xg.s; constructor) | fail | apply Ab.D.guardG) | (apply Ab.K.aopsP; first | apply Ab.Pd.nil | (apply Ab.Pd.q; (case hi => rfl)) | (apply Ab.Pd.z; (case hi => rfl)) | (apply Ab.Pd.zU; (case hi => rfl); (case hd => rfl); (case hb => (exact ev_; done))) | (apply Ab.Pd.zG; (case hi => rfl); (case hd => rfl)) | (apply Ab.Pd.st; (case hi => rfl)) | (apply Ab.Pd.qU; (case hi => rfl); (case hd => rfl); (case hb => (exact ev_; done))) | (apply Ab.Pd.qG; (case hi => rfl); (case hd => rfl)) | (apply Ab.Pd.stU; (case hi => rfl); (case hd => rfl); (case hb => (exact ev_; done))) | (apply Ab.Pd.stG; (case hi => rfl); (case hd => rfl))) | (apply Ab.Pd.qs; intro _ _) | (apply Ab.Pd.nxE; (case hE => rfl)) | (apply Ab.Pd.nxR; (case hr => (repeat' (first | exact Ab.Sub.del _ _ | assumption | (apply Ab.Sub.setI; (case hn => simp)) | (apply Ab.Sub.setF; (case hn => exact free_)) | exact (Ab.Sub.del _ _).trans (by assumption))))) | exact ⟨rfl, rfl⟩ | (apply Ab.K.awp; first | (apply AWp.schedS (id := 7) [(0, 1), (1, 1), (2, 2), (3, 1), (4, 0), (5, 0), (6, 0)] [5, 6] [[], [], [], [2], [1, 2, 3], [0, 1, 2, 3, 4], [0, 1, 2, 3, 4, 5]] [] (by kernel_rfl) (by kernel_rfl) (by kernel_rfl) rfl) | (apply Xg.s; constructor)) | (apply Ab.K.at_; exact at_) | (apply Ab.K.acall; first | assumption | fail) | (apply Ab.Rg.mk; omega) | (apply Ab.Lt.mk; first | decide | (simp; done) | (simp; omega) | fail) | (apply Ab.Get.mk; first | rfl | fail) | (apply Ab.Nm.mk; first | exact nrm_) | (apply Xg.s; constructor) | (apply Ab.asm; assumption) | rfl | infer_instance | decide))
    all_goals apply RetE.puR (b := b)
    case I => (repeat' (first | assumption | (apply Ab.Inv.boxP; (case p => (repeat' (first | assumption | apply Ab.Prv.set))))))
    case he => exact evr_
    case hg => rfl
    · exact (RR.mk ⟨_, rfl, h⟩ .nil).1
    · exact (RR.mk (y := ⟨base, k, q, clock⟩) ⟨_, rfl, h⟩ .nil).2
  by_cases hc : clock - 1 > 0
  · have hy : tickS ⟨base, k, q, clock⟩ = (⟨base, k, q, clock - 1⟩, []) := by
      show (if (k : Int) = 0 then _ else if clock - 1 > 0 then _ else _) = _
      rw [if_neg hk, if_pos hc]
    rw [hy]
    (repeat' (first | (apply Ab.K.ev; exact ev_) | (apply Ab.K.aops; first | (apply Xg.s; constructor) | apply Ab.S.guardG) | (apply Ab.K.aop; first | (first | (apply Ab.O.boxA N; (case hx => exact ev_); (case hid => exact frees_)) | (apply Ab.O.allocA (N + 1); (case hid => exact frees_); (case hp => rfl))) | (apply Og.s; constructor)) | (apply Ab.K.gk; first | (apply Xg.s; constructor) | (apply Ab.gY; case hw => assumption) | (apply Ab.gNT; case hw => assumption) | (apply Ab.gNF; case hw => assumption) | ((first | apply Ab.gD | apply Ab.gDN); all_goals (intro _ _; (first | contradiction | (exfalso; omega) | skip)))) | (apply Ab.K.aopsD; first | (apply Ab.D.q0t; (case hw => rfl); (case hot => rfl)) | (apply Ab.D.w1t; (case hw => rfl); (case hot => rfl)) | (apply Ab.D.q0; (case hw => rfl); intro _ _) | (apply Ab.D.w1n; (case hw => rfl); intro _ _) | (apply Ab.D.w2n; (case hw => rfl); intro _ _) | (apply Xg.s; constructor) | fail | apply Ab.D.guardG) | (apply Ab.K.aopsP; first | apply Ab.Pd.nil | (apply Ab.Pd.q; (case hi => rfl)) | (apply Ab.Pd.z; (case hi => rfl)) | (apply Ab.Pd.zU; (case hi => rfl); (case hd => rfl); (case hb => (exact ev_; done))) | (apply Ab.Pd.zG; (case hi => rfl); (case hd => rfl)) | (apply Ab.Pd.st; (case hi => rfl)) | (apply Ab.Pd.qU; (case hi => rfl); (case hd => rfl); (case hb => (exact ev_; done))) | (apply Ab.Pd.qG; (case hi => rfl); (case hd => rfl)) | (apply Ab.Pd.stU; (case hi => rfl); (case hd => rfl); (case hb => (exact ev_; done))) | (apply Ab.Pd.stG; (case hi => rfl); (case hd => rfl))) | (apply Ab.Pd.qs; intro _ _) | (apply Ab.Pd.nxE; (case hE => rfl)) | (apply Ab.Pd.nxR; (case hr => (repeat' (first | exact Ab.Sub.del _ _ | assumption | (apply Ab.Sub.setI; (case hn => simp)) | (apply Ab.Sub.setF; (case hn => exact free_)) | exact (Ab.Sub.del _ _).trans (by assumption))))) | exact ⟨rfl, rfl⟩ | (apply Ab.K.awp; first | (apply AWp.schedS (id := 7) [(0, 1), (1, 1), (2, 2), (3, 1), (4, 0), (5, 0), (6, 0)] [5, 6] [[], [], [], [2], [1, 2, 3], [0, 1, 2, 3, 4], [0, 1, 2, 3, 4, 5]] [] (by kernel_rfl) (by kernel_rfl) (by kernel_rfl) rfl) | (apply Xg.s; constructor)) | (apply Ab.K.at_; exact at_) | (apply Ab.K.acall; first | assumption | fail) | (apply Ab.Rg.mk; omega) | (apply Ab.Lt.mk; first | decide | (simp; done) | (simp; omega) | fail) | (apply Ab.Get.mk; first | rfl | fail) | (apply Ab.Nm.mk; first | exact nrm_) | (apply Xg.s; constructor) | (apply Ab.asm; assumption) | rfl | infer_instance | decide))
    all_goals apply RetE.puR (b := b)
    case I => (repeat' (first | assumption | (apply Ab.Inv.boxP; (case p => (repeat' (first | assumption | apply Ab.Prv.set))))))
    case he => exact evr_
    case hg => rfl
    · exact (RR.mk ⟨_, rfl, h⟩ .nil).1
    · exact (RR.mk (y := ⟨base, k, q, clock - 1⟩) ⟨_, rfl, h⟩ .nil).2
  · have hy : tickS ⟨base, k, q, clock⟩ = (⟨base, k, q, 4⟩, ((nmb base q).drop 0).take (k - 0)) := by
      show (if (k : Int) = 0 then _ else if clock - 1 > 0 then _ else (_, (nmb base q).take (k : Int).toNat)) = _
      rw [if_neg hk, if_neg hc, Int.toNat_natCast]; rfl
    rw [hy]
    obtain ⟨s3, hs3⟩ : ∃ s3 : AHeap, s3 = (s.set N (.cells true 1 [.int .i64 base, .int .i64 k, .slice A q.length cap, .int .i64 clock])).set (N + 1) (.cells true 1 [.int .i64 0, .int .i64 0, .slice none 0 0, .int .i64 0]) := ⟨_, rfl⟩
    rw [← hs3] at I1 PN PN1
    obtain ⟨s4, hs4⟩ : ∃ s4 : AHeap, s4 = (s3.set N (.cells true 1 [.int .i64 base, .int .i64 k, .slice A q.length cap, .int .i64 (clock - 1)])).set N (.cells true 1 [.int .i64 base, .int .i64 k, .slice A q.length cap, .int .i64 4]) := ⟨_, rfl⟩
    have I6 : Inv s b s4 b := by rw [hs4]; (repeat' (first | assumption | (apply Ab.Inv.boxP; (case p => (repeat' (first | assumption | apply Ab.Prv.set))))))
    have P6 : Prv s s4 b N := by rw [hs4]; (repeat' (first | assumption | apply Ab.Prv.set))
    have P61 : Prv s s4 b (N + 1) := by rw [hs4]; (repeat' (first | assumption | apply Ab.Prv.set))
    have a6 : At s4 N (.cells true 1 [.int .i64 base, .int .i64 k, .slice A q.length cap, .int .i64 4]) := by rw [hs4]; exact At.hit
    have a61 : At s4 (N + 1) (.cells true 1 [.int .i64 0, .int .i64 0, .slice none 0 0, .int .i64 0]) := by rw [hs4, hs3]; exact at_
    have c76 := list77 (f := 0) (t := k) (sent := k) (clock := 4) (base := base) I6.sub h (by omega) (by omega) (by omega) hO.1
    (repeat' (first | (apply Ab.K.ev; exact ev_) | (apply Ab.K.aops; first | (apply Xg.s; constructor) | apply Ab.S.guardG) | (apply Ab.K.aop; first | (first | (apply Ab.O.boxA N; (case hx => exact ev_); (case hid => exact frees_)) | (apply Ab.O.allocA (N + 1); (case hid => exact frees_); (case hp => rfl)) | (apply Ab.O.callFE; (case ha => exact evs_); (case hc => rw [← hs3, ← hs4]; exact c76))) | (apply Og.s; constructor)) | (apply Ab.K.gk; first | (apply Xg.s; constructor) | (apply Ab.gY; case hw => assumption) | (apply Ab.gNT; case hw => assumption) | (apply Ab.gNF; case hw => assumption) | ((first | apply Ab.gD | apply Ab.gDN); all_goals (intro _ _; (first | contradiction | (exfalso; omega) | skip)))) | (apply Ab.K.aopsD; first | (apply Ab.D.q0t; (case hw => rfl); (case hot => rfl)) | (apply Ab.D.w1t; (case hw => rfl); (case hot => rfl)) | (apply Ab.D.q0; (case hw => rfl); intro _ _) | (apply Ab.D.w1n; (case hw => rfl); intro _ _) | (apply Ab.D.w2n; (case hw => rfl); intro _ _) | (apply Xg.s; constructor) | fail | apply Ab.D.guardG) | (apply Ab.K.aopsP; first | apply Ab.Pd.nil | (apply Ab.Pd.q; (case hi => rfl)) | (apply Ab.Pd.z; (case hi => rfl)) | (apply Ab.Pd.zU; (case hi => rfl); (case hd => rfl); (case hb => (exact ev_; done))) | (apply Ab.Pd.zG; (case hi => rfl); (case hd => rfl)) | (apply Ab.Pd.st; (case hi => rfl)) | (apply Ab.Pd.qU; (case hi => rfl); (case hd => rfl); (case hb => (exact ev_; done))) | (apply Ab.Pd.qG; (case hi => rfl); (case hd => rfl)) | (apply Ab.Pd.stU; (case hi => rfl); (case hd => rfl); (case hb => (exact ev_; done))) | (apply Ab.Pd.stG; (case hi => rfl); (case hd => rfl))) | (apply Ab.Pd.qs; intro _ _) | (apply Ab.Pd.nxE; (case hE => rfl)) | (apply Ab.Pd.nxR; (case hr => (repeat' (first | exact Ab.Sub.del _ _ | assumption | (apply Ab.Sub.setI; (case hn => simp)) | (apply Ab.Sub.setF; (case hn => exact free_)) | exact (Ab.Sub.del _ _).trans (by assumption))))) | exact ⟨rfl, rfl⟩ | (apply Ab.K.awp; first | (apply AWp.schedS (id := 7) [(0, 1), (1, 1), (2, 2), (3, 1), (4, 0), (5, 0), (6, 0)] [5, 6] [[], [], [], [2], [1, 2, 3], [0, 1, 2, 3, 4], [0, 1, 2, 3, 4, 5]] [] (by kernel_rfl) (by kernel_rfl) (by kernel_rfl) rfl) | (apply Xg.s; constructor)) | (apply Ab.K.at_; exact at_) | (apply Ab.K.acall; first | assumption | fail) | (apply Ab.Rg.mk; omega) | (apply Ab.Lt.mk; first | decide | (simp; done) | (simp; omega) | fail) | (apply Ab.Get.mk; first | rfl | fail) | (apply Ab.Nm.mk; first | exact nrm_) | (apply Xg.s; constructor) | (apply Ab.asm; assumption) | rfl | infer_instance | decide))
    rintro w s5 ⟨b5, I7, hw⟩
    clear c76
    rw [← hs3, ← hs4]
    refine Pd.nxR ((Sub.del _ _).trans I7.kp) ?_
    have I8 := I6.trans I7
    have P8 := P6.call I7
    have P81 := P61.call I7
    have a8 := I7.kp.at_ a6
    have a81 := I7.kp.at_ a61
    have hu8 := h.sub datQ I7.old
    obtain ⟨D, c3, rfl, _⟩ := hw.isl
    (repeat' (first | (apply Ab.K.ev; exact ev_) | (apply Ab.K.aops; first | (apply Xg.s; constructor) | apply Ab.S.guardG) | (apply Ab.K.aop; first | (apply Og.s; constructor)) | (apply Ab.K.gk; first | (apply Xg.s; constructor) | (apply Ab.gY; case hw => assumption) | (apply Ab.gNT; case hw => assumption) | (apply Ab.gNF; case hw => assumption) | ((first | apply Ab.gD | apply Ab.gDN); all_goals (intro _ _; (first | contradiction | (exfalso; omega) | skip)))) | (apply Ab.K.aopsD; first | (apply Ab.D.q0t; (case hw => rfl); (case hot => rfl)) | (apply Ab.D.w1t; (case hw => rfl); (case hot => rfl)) | (apply Ab.D.q0; (case hw => rfl); intro _ _) | (apply Ab.D.w1n; (case hw => rfl); intro _ _) | (apply Ab.D.w2n; (case hw => rfl); intro _ _) | (apply Xg.s; constructor) | fail | apply Ab.D.guardG) | (apply Ab.K.aopsP; first | apply Ab.Pd.nil | (apply Ab.Pd.q; (case hi => rfl)) | (apply Ab.Pd.z; (case hi => rfl)) | (apply Ab.Pd.zU; (case hi => rfl); (case hd => rfl); (case hb => (exact ev_; done))) | (apply Ab.Pd.zG; (case hi => rfl); (case hd => rfl)) | (apply Ab.Pd.st; (case hi => rfl)) | (apply Ab.Pd.qU; (case hi => rfl); (case hd => rfl); (case hb => (exact ev_; done))) | (apply Ab.Pd.qG; (case hi => rfl); (case hd => rfl)) | (apply Ab.Pd.stU; (case hi => rfl); (case hd => rfl); (case hb => (exact ev_; done))) | (apply Ab.Pd.stG; (case hi => rfl); (case hd => rfl))) | (apply Ab.Pd.qs; intro _ _) | (apply Ab.Pd.nxE; (case hE => rfl)) | (apply Ab.Pd.nxR; (case hr => (repeat' (first | exact Ab.Sub.del _ _ | assumption | (apply Ab.Sub.setI; (case hn => simp)) | (apply Ab.Sub.setF; (case hn => exact free_)) | exact (Ab.Sub.del _ _).trans (by assumption))))) | exact ⟨rfl, rfl⟩ | (apply Ab.K.awp; first | (apply AWp.schedS (id := 7) [(0, 1), (1, 1), (2, 2), (3, 1), (4, 0), (5, 0), (6, 0)] [5, 6] [[], [], [], [2], [1, 2, 3], [0, 1, 2, 3, 4], [0, 1, 2, 3, 4, 5]] [] (by kernel_rfl) (by kernel_rfl) (by kernel_rfl) rfl) | (apply Xg.s; constructor)) | (apply Ab.K.at_; exact at_) | (apply Ab.K.acall; first | assumption | fail) | (apply Ab.Rg.mk; omega) | (apply Ab.Lt.mk; first | decide | (simp; done) | (simp; omega) | fail) | (apply Ab.Get.mk; first | rfl | fail) | (apply Ab.Nm.mk; first | exact nrm_) | (apply Xg.s; constructor) | (apply Ab.asm; assumption) | rfl | infer_instance | decide))
    all_goals apply RetE.puR (b := b5)
    case I => (repeat' (first | assumption | (apply Ab.Inv.boxP; (case p => (repeat' (first | assumption | apply Ab.Prv.set))))))
    case he => exact evr_
    case hg => rfl
    · exact (RR.mk ⟨_, rfl, hu8⟩ hw).1
    · exact (RR.mk (y := ⟨base, k, q, 4⟩) ⟨_, rfl, hu8⟩ hw).2
set_option maxHeartbeats 4000000 in
theorem ack48' {s b : AHeap} {base sent clock n : Int} {v : Value} {q : List (List Int)} (hb : Sub b s) (h : Qt b v q) (hm : Sd.May ⟨base, sent, q, clock⟩) (hn : 0 ≤ n ∧ n ≤ 2147483647) :
    ACallE Try.prog 48 [.agg #[.int .i64 base, .int .i64 sent, v, .int .i64 clock], .int .i64 n] s (Pu s b (R1 (ackS ⟨base, sent, q, clock⟩ n))) := by
  have hq : q.length ≤ 256 := hm.1.2.1
  have hO := hm.1
  simp only [Sd.Ok] at hO
  refine ACallE.make Try.func48 rfl (by kernel_rfl) (by decide) rfl (fun N hN0 => ?_)
  have hT : Top N s := hN0
  obtain ⟨A, cap, rfl, hcap⟩ := h.isl
  obtain ⟨s1, hs1⟩ : ∃ s1 : AHeap, s1 = (s.set N (.cells true 1 [.int .i64 base, .int .i64 sent, .slice A q.length cap, .int .i64 clock])).set (N + 1) (.cells true 1 [.int .i64 0, .int .i64 0, .slice none 0 0, .int .i64 0]) := ⟨_, rfl⟩
  have I1 : Inv s b s1 b := by rw [hs1]; exact ((Inv.refl hb).boxT hT (Nat.le_refl _)).boxT hT.new (Nat.le_refl _)
  have PN : Prv s s1 b N := by rw [hs1]; exact (Prv.mk' (Inv.refl hb) (hT.none (Nat.le_refl _))).set
  have PN1 : Prv s s1 b (N + 1) := by rw [hs1]; exact Prv.mk' ((Inv.refl hb).boxT hT (Nat.le_refl _)) (hT.new.none (Nat.le_refl _))
  have aN : At s1 N (.cells true 1 [.int .i64 base, .int .i64 sent, .slice A q.length cap, .int .i64 clock]) := by rw [hs1]; exact at_
  have aN1 : At s1 (N + 1) (.cells true 1 [.int .i64 0, .int .i64 0, .slice none 0 0, .int .i64 0]) := by rw [hs1]; exact At.hit
  by_cases hk : n ≤ base ∨ n - base > sent
  · have hy : ackS ⟨base, sent, q, clock⟩ n = ⟨base, sent, q, clock⟩ := if_pos hk
    rw [hy]
    rw [hs1] at I1 PN PN1
    by_cases hk2 : n ≤ base
    all_goals (repeat' (first | (apply Ab.K.ev; exact ev_) | (apply Ab.K.aops; first | (apply Xg.s; constructor) | apply Ab.S.guardG) | (apply Ab.K.aop; first | (first | (apply Ab.O.boxA N; (case hx => exact ev_); (case hid => exact frees_)) | (apply Ab.O.allocA (N + 1); (case hid => exact frees_); (case hp => rfl))) | (apply Og.s; constructor)) | (apply Ab.K.gk; first | (apply Xg.s; constructor) | (apply Ab.gY; case hw => assumption) | (apply Ab.gNT; case hw => assumption) | (apply Ab.gNF; case hw => assumption) | ((first | apply Ab.gD | apply Ab.gDN); all_goals (intro _ _; (first | contradiction | (exfalso; omega) | skip)))) | (apply Ab.K.awp; first | (apply Xg.s; constructor)) | (apply Ab.K.at_; exact at_) | (apply Ab.K.acall; first | assumption | fail) | (apply Ab.Rg.mk; omega) | (apply Ab.Lt.mk; first | decide | (simp; done) | (simp; omega) | fail) | (apply Ab.Get.mk; first | rfl | fail) | (apply Ab.Nm.mk; first | exact nrm_) | (apply Xg.s; constructor) | (apply Ab.asm; assumption) | rfl | infer_instance | decide))
    all_goals apply RetE.puR (b := b)
    case I => (repeat' (first | assumption | (apply Ab.Inv.boxP; (case p => (repeat' (first | assumption | apply Ab.Prv.set))))))
    case I => (repeat' (first | assumption | (apply Ab.Inv.boxP; (case p => (repeat' (first | assumption | apply Ab.Prv.set))))))
    case he => exact evr_
    case he => exact evr_
    case hg => rfl
    case hg => rfl
    case hq => exact (R1.mk ⟨_, rfl, h⟩).1
    case hq => exact (R1.mk ⟨_, rfl, h⟩).1
    all_goals exact (R1.mk (y := ⟨base, sent, q, clock⟩) ⟨_, rfl, h⟩).2
  · have hy : ackS ⟨base, sent, q, clock⟩ n = ⟨n, sent - (n - base), q.drop (n - base).toNat, if sent - (n - base) = 0 then 0 else 4⟩ := if_neg hk
    rw [hy]
    clear hy
    obtain ⟨m, hm2⟩ : ∃ m : Nat, n - base = m := ⟨(n - base).toNat, by omega⟩
    rw [hm2, Int.toNat_natCast]
    (repeat' (first | (apply Ab.K.ev; exact ev_) | (apply Ab.K.aops; first | (apply Xg.s; constructor) | apply Ab.S.guardG) | (apply Ab.K.aop; first | (first | (apply Ab.O.boxA N; (case hx => exact ev_); (case hid => exact frees_)) | (apply Ab.O.allocA (N + 1); (case hid => exact frees_); (case hp => rfl))) | (apply Og.s; constructor)) | (apply Ab.K.gk; first | (apply Xg.s; constructor) | (apply Ab.gY; case hw => assumption) | (apply Ab.gNT; case hw => assumption) | (apply Ab.gNF; case hw => assumption) | ((first | apply Ab.gD | apply Ab.gDN); all_goals (intro _ _; (first | contradiction | (exfalso; omega) | skip)))) | (apply Ab.K.awp; first | (apply Xg.s; constructor)) | (apply Ab.K.at_; exact at_) | (apply Ab.K.acall; first | assumption | fail) | (apply Ab.Rg.mk; omega) | (apply Ab.Lt.mk; first | decide | (simp; done) | (simp; omega) | fail) | (apply Ab.Get.mk; first | rfl | fail) | (apply Ab.Nm.mk; first | exact nrm_) | (apply Xg.s; constructor) | (apply Ab.asm; assumption) | rfl | infer_instance | decide))
    rw [← hs1]
    refine AWp.loop (fun kk tm s2 => ∃ (i : Nat) (clk : Int) (u : Value), Ev tm (.tmp 1) (.int .i64 n) ∧ Ev tm (.tmp 2) (.pointer (some ⟨N, 0, none⟩)) ∧ Ev tm (.tmp 4) (.pointer (some ⟨N + 1, 0, none⟩)) ∧ At s2 N (.cells true 1 [.int .i64 (base + i), .int .i64 (sent - i), u, .int .i64 clk]) ∧ At s2 (N + 1) (.cells true 1 [.int .i64 0, .int .i64 0, .slice none 0 0, .int .i64 0]) ∧ Inv s b s2 b ∧ Prv s s2 b N ∧ Prv s s2 b (N + 1) ∧ Qt b u (q.drop i) ∧ (i ≠ 0 → clk = 4) ∧ i ≤ m ∧ kk = m - i) m ?_ ?_
    · exact ⟨0, clock, _, by exact ev_, by exact ev_, by exact ev_, by rw [show base + ((0 : Nat) : Int) = base by omega, show sent - ((0 : Nat) : Int) = sent by omega]; exact aN, aN1, I1, PN, PN1, by rw [List.drop_zero]; exact h, fun e => absurd rfl e, by omega, rfl⟩
    clear I1 PN PN1 aN aN1 hs1
    rintro kk tm s2 ⟨i, clk, u, e1, e2, e4, aN, aN1, I1, PN, PN1, hu, hclk, hi, hkk⟩
    by_cases hin : i < m
    · have hdl2 : (q.drop i).length = q.length - i := List.length_drop
      have hdl : (q.drop i).length ≠ 0 := by omega
      rcases hu.open_ with ⟨_, e⟩ | ⟨o, off, c, sp, rw', cs, rfl, hcc, ha, hx⟩
      · exact absurd (by rw [e]; rfl) hdl
      have ao := I1.sub.at_ ha
      have hc1 := hu.cut 1 ((q.drop i).length - 1) (by omega) sp (c - 1) (by omega)
      rw [List.take_of_length_le (by simp only [List.length_drop]; omega), List.drop_drop] at hc1
      have hoN : o ≠ N := fun e => by subst e; have h2 := PN.b; rw [ha.eq] at h2; cases h2
      (repeat' (first | (apply Ab.K.ev; exact ev_) | (apply Ab.K.aops; first | (apply Xg.s; constructor) | apply Ab.S.guardG) | (apply Ab.K.aop; first | (apply Og.s; constructor)) | (apply Ab.K.gk; first | (apply Xg.s; constructor) | (apply Ab.gY; case hw => assumption) | (apply Ab.gNT; case hw => assumption) | (apply Ab.gNF; case hw => assumption) | ((first | apply Ab.gD | apply Ab.gDN); all_goals (intro _ _; (first | contradiction | (exfalso; omega) | skip)))) | (apply Ab.K.awp; first | (apply Xg.s; constructor)) | (apply Ab.K.at_; exact at_) | (apply Ab.K.acall; first | assumption | fail) | (apply Ab.Rg.mk; omega) | (apply Ab.Lt.mk; first | decide | (simp; done) | (simp; omega) | fail) | (apply Ab.Get.mk; first | rfl | fail) | (apply Ab.Nm.mk; first | exact nrm_) | (apply Xg.s; constructor) | (apply Ab.asm; assumption) | rfl | infer_instance | decide))
      refine X.roundN (m - (i + 1)) (by omega) ⟨i + 1, 4, _, by exact ev_, by exact ev_, by exact ev_, ?_, by exact at_, by (repeat' (first | assumption | (apply Ab.Inv.boxP; (case p => (repeat' (first | assumption | apply Ab.Prv.set)))))), by (repeat' (first | assumption | apply Ab.Prv.set)), by (repeat' (first | assumption | apply Ab.Prv.set)), hc1, fun _ => rfl, by omega, rfl⟩
      rw [show base + ((i + 1 : Nat) : Int) = base + i + 1 by omega, show sent - ((i + 1 : Nat) : Int) = sent - i - 1 by omega]
      exact At.hit
    · have hie : i = m := by omega
      subst hie
      obtain rfl := hclk (by omega)
      by_cases h0 : sent - i = 0
      case' pos => rw [if_pos h0]
      case' neg => rw [if_neg h0]
      all_goals (repeat' (first | (apply Ab.K.ev; exact ev_) | (apply Ab.K.aops; first | (apply Xg.s; constructor) | apply Ab.S.guardG) | (apply Ab.K.aop; first | (apply Og.s; constructor)) | (apply Ab.K.gk; first | (apply Xg.s; constructor) | (apply Ab.gY; case hw => assumption) | (apply Ab.gNT; case hw => assumption) | (apply Ab.gNF; case hw => assumption) | ((first | apply Ab.gD | apply Ab.gDN); all_goals (intro _ _; (first | contradiction | (exfalso; omega) | skip)))) | (apply Ab.K.awp; first | (apply Xg.s; constructor)) | (apply Ab.K.at_; exact at_) | (apply Ab.K.acall; first | assumption | fail) | (apply Ab.Rg.mk; omega) | (apply Ab.Lt.mk; first | decide | (simp; done) | (simp; omega) | fail) | (apply Ab.Get.mk; first | rfl | fail) | (apply Ab.Nm.mk; first | exact nrm_) | (apply Xg.s; constructor) | (apply Ab.asm; assumption) | rfl | infer_instance | decide))
      all_goals apply RetE.puR (b := b)
      case I => (repeat' (first | assumption | (apply Ab.Inv.boxP; (case p => (repeat' (first | assumption | apply Ab.Prv.set))))))
      case I => (repeat' (first | assumption | (apply Ab.Inv.boxP; (case p => (repeat' (first | assumption | apply Ab.Prv.set))))))
      case he => exact evr_
      case he => exact evr_
      case hg => rfl
      case hg => rfl
      case hq => rw [show n = base + i by omega]; exact (R1.mk ⟨_, rfl, hu⟩).1
      case hq => rw [show n = base + i by omega]; exact (R1.mk ⟨_, rfl, hu⟩).1
      · exact (R1.mk (y := ⟨base + i, sent - i, q.drop i, _⟩) ⟨_, rfl, hu⟩).2
      · exact (R1.mk (y := ⟨base + i, sent - i, q.drop i, _⟩) ⟨_, rfl, hu⟩).2
end Go.Proofs.Ytoiplbackllgfaa

/- lines: what senders send, by the document; senders that are alike. -/
namespace Go.Proofs.Ytoiplbackllgfaa
set_option linter.unusedVariables false
set_option linter.unusedSimpArgs false
set_option linter.unusedSectionVars false
open Go.RowKit Ab HP
attribute [local irreducible] AOps AOpsD AOpsP QStep NX AOp AWp put nargs AHeap.set At Free ACall ACallE thenQ blockQ roundQ RetQ RetE Src Gr
set_option maxHeartbeats 4000000 in
theorem ready61' {s b : AHeap} {base clock : Int} {k : Nat} {v : Value} {q : List (List Int)} (hb : Sub b s) (h : Qt b v q) (hm : Sd.May ⟨base, k, q, clock⟩) :
    ACallE Try.prog 61 [.agg #[.int .i64 base, .int .i64 k, v, .int .i64 clock]] s (Pu s b (RR (readyS ⟨base, k, q, clock⟩).1 (readyS ⟨base, k, q, clock⟩).2)) := by
  have hq : q.length ≤ 256 := hm.1.2.1
  have hO := hm.1
  simp only [Sd.Ok] at hO
  obtain ⟨t, ht⟩ : ∃ t, t = min 16 q.length := ⟨_, rfl⟩
  have htop : topS ⟨base, k, q, clock⟩ = t := ht.symm
  have hkt : k ≤ t := by omega
  have hyS : readyS ⟨base, k, q, clock⟩ = (⟨base, (t : Nat), q, if k < t then 4 else clock⟩, ((nmb base q).drop k).take (t - k)) := by
    show (if k < topS _ then (_, _) else (_, _)) = _
    rw [htop]
    by_cases hk : k < t
    · rw [if_pos hk, if_pos hk]; rfl
    · rw [if_neg hk, if_neg hk]
      obtain rfl : k = t := by omega
      rw [Nat.sub_self, List.take_zero]
  rw [hyS]
  clear hyS htop
  refine ACallE.make Try.func61 rfl (by kernel_rfl) (by decide) rfl (fun N hN0 => ?_)
  have hT : Top N s := hN0
  obtain ⟨A, cap, rfl, hcap⟩ := h.isl
  obtain ⟨s1, hs1⟩ : ∃ s1 : AHeap, s1 = (s.set N (.cells true 1 [.int .i64 base, .int .i64 k, .slice A q.length cap, .int .i64 clock])).set (N + 1) (.cells true 1 [.int .i64 0, .int .i64 0, .slice none 0 0, .int .i64 0]) := ⟨_, rfl⟩
  have I1 : Inv s b s1 b := by rw [hs1]; exact ((Inv.refl hb).boxT hT (Nat.le_refl _)).boxT hT.new (Nat.le_refl _)
  have PN : Prv s s1 b N := by rw [hs1]; exact (Prv.mk' (Inv.refl hb) (hT.none (Nat.le_refl _))).set
  have PN1 : Prv s s1 b (N + 1) := by rw [hs1]; exact Prv.mk' ((Inv.refl hb).boxT hT (Nat.le_refl _)) (hT.new.none (Nat.le_refl _))
  have T1 : Top (N + 2) s1 := by rw [hs1]; exact hT.new.new
  have aN : At s1 N (.cells true 1 [.int .i64 base, .int .i64 k, .slice A q.length cap, .int .i64 clock]) := by rw [hs1]; exact at_
  have aN1 : At s1 (N + 1) (.cells true 1 [.int .i64 0, .int .i64 0, .slice none 0 0, .int .i64 0]) := by rw [hs1]; exact At.hit
  (repeat' (first | (apply Ab.K.ev; exact ev_) | (apply Ab.K.aops; first | (apply Xg.s; constructor) | apply Ab.S.guardG) | (apply Ab.K.aop; first | (first | (apply Ab.O.boxA N; (case hx => exact ev_); (case hid => exact frees_)) | (apply Ab.O.allocA (N + 1); (case hid => exact frees_); (case hp => rfl)) | (apply Ab.O.build0 (N + 2) (te := ⟨.struct [(0, 3), (1, 31)], 2, 32, .agg #[.int .i64 0, .slice none 0 0]⟩); (case hz => exact ⟨rfl, rfl⟩); (case hid => rw [← hs1]; exact T1.free (Nat.le_refl _)))) | (apply Og.s; constructor)) | (apply Ab.K.gk; first | (apply Xg.s; constructor) | (apply Ab.gY; case hw => assumption) | (apply Ab.gNT; case hw => assumption) | (apply Ab.gNF; case hw => assumption) | ((first | apply Ab.gD | apply Ab.gDN); all_goals (intro _ _; (first | contradiction | (exfalso; omega) | skip)))) | (apply Ab.K.aopsD; first | (apply Ab.D.q0t; (case hw => rfl); (case hot => rfl)) | (apply Ab.D.w1t; (case hw => rfl); (case hot => rfl)) | (apply Ab.D.q0; (case hw => rfl); intro _ _) | (apply Ab.D.w1n; (case hw => rfl); intro _ _) | (apply Ab.D.w2n; (case hw => rfl); intro _ _) | (apply Xg.s; constructor) | fail | apply Ab.D.guardG) | (apply Ab.K.aopsP; first | apply Ab.Pd.nil | (apply Ab.Pd.q; (case hi => rfl)) | (apply Ab.Pd.z; (case hi => rfl)) | (apply Ab.Pd.zU; (case hi => rfl); (case hd => rfl); (case hb => (exact ev_; done))) | (apply Ab.Pd.zG; (case hi => rfl); (case hd => rfl)) | (apply Ab.Pd.st; (case hi => rfl)) | (apply Ab.Pd.qU; (case hi => rfl); (case hd => rfl); (case hb => (exact ev_; done))) | (apply Ab.Pd.qG; (case hi => rfl); (case hd => rfl)) | (apply Ab.Pd.stU; (case hi => rfl); (case hd => rfl); (case hb => (exact ev_; done))) | (apply Ab.Pd.stG; (case hi => rfl); (case hd => rfl))) | (apply Ab.Pd.qs; intro _ _) | (apply Ab.Pd.nxE; (case hE => rfl)) | (apply Ab.Pd.nxR; (case hr => (repeat' (first | exact Ab.Sub.del _ _ | assumption | (apply Ab.Sub.setI; (case hn => simp)) | (apply Ab.Sub.setF; (case hn => exact free_)) | exact (Ab.Sub.del _ _).trans (by assumption))))) | exact ⟨rfl, rfl⟩ | (apply Ab.K.awp; first | (apply AWp.schedS (id := 3) [(0, 2), (1, 2), (2, 1), (3, 2), (4, 1), (5, 2), (6, 2), (7, 1), (8, 2), (9, 1), (10, 2), (11, 1), (12, 0), (13, 0), (14, 0), (15, 0)] [12, 13, 14, 15] [[], [], [1], [], [3], [1, 2, 3, 4], [], [6], [], [8], [6, 7, 8, 9], [6, 7, 8, 9, 10], [1, 2, 3, 4, 5, 6, 7, 8, 9, 10, 11], [1, 2, 3, 4, 5, 6, 7, 8, 9, 10, 11, 12], [0, 1, 2, 3, 4, 5, 6, 7, 8, 9, 10, 11, 12, 13], [0, 1, 2, 3, 4, 5, 6, 7, 8, 9, 10, 11, 12, 13, 14]] [] (by kernel_rfl) (by kernel_rfl) (by kernel_rfl) rfl) | (apply Xg.s; constructor)) | (apply Ab.K.at_; exact at_) | (apply Ab.K.acall; first | assumption | fail) | (apply Ab.Rg.mk; omega) | (apply Ab.Lt.mk; first | decide | (simp; done) | (simp; omega) | fail) | (apply Ab.Get.mk; first | rfl | fail) | (apply Ab.Nm.mk; first | exact nrm_) | (apply Xg.s; constructor) | (apply Ab.asm; assumption) | rfl | infer_instance | decide))
  rw [← hs1]
  refine AWp.loop (fun kk tm s2 => ∃ (i M : Nat) (w : Value) (on : Option Nat) (xs : List Value), Ev tm (.tmp 1) (.pointer (some ⟨N, 0, none⟩)) ∧ Ev tm (.tmp 2) (.pointer (some ⟨N + 1, 0, none⟩)) ∧ Ev tm (.tmp 4) w ∧ At s2 N (.cells true 1 [.int .i64 base, .int .i64 i, .slice A q.length cap, .int .i64 (if k < i then 4 else clock)]) ∧ At s2 (N + 1) (.cells true 1 [.int .i64 0, .int .i64 0, .slice none 0 0, .int .i64 0]) ∧ Inv s b s2 b ∧ Prv s s2 b N ∧ Prv s s2 b (N + 1) ∧ Gr s2 2 (N + 2) w on (i - k) xs ∧ Cs 2 (RN b) xs (((nmb base q).drop k).take (i - k)) ∧ (∀ o, on = some o → Prv s s2 b o) ∧ Top M s2 ∧ N + 2 ≤ M ∧ k ≤ i ∧ i ≤ t ∧ kk = t - i) (t - k) ?_ ?_
  · exact ⟨k, N + 3, _, some (N + 2), [], by exact ev_, by exact ev_, by exact ev_, by rw [if_neg (Nat.lt_irrefl _)]; exact At.miss (by omega) aN, At.miss (by omega) aN1, I1.boxT T1 (Nat.le_refl _), PN.set, PN1.set, (by rw [Nat.sub_self]; exact Gr.new At.hit rfl (Nat.le_refl _)), (by rw [Nat.sub_self]; exact Cs.nil), (fun o e => by obtain rfl := Option.some.inj e; exact Prv.mk' I1 (T1.none (Nat.le_refl _))), T1.new, by omega, Nat.le_refl _, hkt, rfl⟩
  clear I1 PN PN1 T1 aN aN1 hs1
  rintro kk tm s2 ⟨i, M, w, on, xs, e1, e2, e4, aN, aN1, I, PN, PN1, G, C, hP, T, hMM, hki, hi, hkk⟩
  by_cases hin : i < t
  · obtain ⟨x, hx⟩ : ∃ x, q[i]? = some x := ⟨_, List.getElem?_eq_getElem (by omega)⟩
    have htk := part_snoc hki (nmb_get (base := base) hx)
    obtain ⟨o, off, c, sp, rw', cs, u, e, _, ha, hg, hu⟩ := h.qelt hx
    obtain ⟨rfl, rfl⟩ : A = some ⟨o, off, sp⟩ ∧ cap = c := by injection e with e1 e2 e3; exact ⟨e1, e3⟩
    have a1 : At s2 o (.cells rw' 1 cs) := I.sub.at_ ha
    obtain ⟨B, c2, rfl, _⟩ := hu.isl
    have hlt := G.lt T
    have hge := G.from_

    (repeat' (first | (apply Ab.K.ev; exact ev_) | (apply Ab.K.aops; first | (apply Xg.s; constructor) | apply Ab.S.guardG) | (apply Ab.K.aop; first | (apply Ab.O.build1A M; (case hx => exact ev_); (case hl => rfl); (case hz => exact ⟨rfl, rfl⟩); (case hes => decide); (case hid => exact T.free (Nat.le_refl _))) | (apply Og.s; constructor)) | (apply Ab.K.gk; first | (apply Xg.s; constructor) | (apply Ab.gY; case hw => assumption) | (apply Ab.gNT; case hw => assumption) | (apply Ab.gNF; case hw => assumption) | ((first | apply Ab.gD | apply Ab.gDN); all_goals (intro _ _; (first | contradiction | (exfalso; omega) | skip)))) | (apply Ab.K.aopsD; first | (apply Ab.D.q0t; (case hw => rfl); (case hot => rfl)) | (apply Ab.D.w1t; (case hw => rfl); (case hot => rfl)) | (apply Ab.D.q0; (case hw => rfl); intro _ _) | (apply Ab.D.w1n; (case hw => rfl); intro _ _) | (apply Ab.D.w2n; (case hw => rfl); intro _ _) | (apply Xg.s; constructor) | fail | apply Ab.D.guardG) | (apply Ab.K.aopsP; first | apply Ab.Pd.nil | (apply Ab.Pd.q; (case hi => rfl)) | (apply Ab.Pd.z; (case hi => rfl)) | (apply Ab.Pd.zU; (case hi => rfl); (case hd => rfl); (case hb => (exact ev_; done))) | (apply Ab.Pd.zG; (case hi => rfl); (case hd => rfl)) | (apply Ab.Pd.st; (case hi => rfl)) | (apply Ab.Pd.qU; (case hi => rfl); (case hd => rfl); (case hb => (exact ev_; done))) | (apply Ab.Pd.qG; (case hi => rfl); (case hd => rfl)) | (apply Ab.Pd.stU; (case hi => rfl); (case hd => rfl); (case hb => (exact ev_; done))) | (apply Ab.Pd.stG; (case hi => rfl); (case hd => rfl))) | (apply Ab.Pd.qs; intro _ _) | (apply Ab.Pd.nxE; (case hE => rfl)) | (apply Ab.Pd.nxR; (case hr => (repeat' (first | exact Ab.Sub.del _ _ | assumption | (apply Ab.Sub.setI; (case hn => simp)) | (apply Ab.Sub.setF; (case hn => exact free_)) | exact (Ab.Sub.del _ _).trans (by assumption))))) | exact ⟨rfl, rfl⟩ | (apply Ab.K.awp; first | (apply AWp.schedS (id := 3) [(0, 2), (1, 2), (2, 1), (3, 2), (4, 1), (5, 2), (6, 2), (7, 1), (8, 2), (9, 1), (10, 2), (11, 1), (12, 0), (13, 0), (14, 0), (15, 0)] [12, 13, 14, 15] [[], [], [1], [], [3], [1, 2, 3, 4], [], [6], [], [8], [6, 7, 8, 9], [6, 7, 8, 9, 10], [1, 2, 3, 4, 5, 6, 7, 8, 9, 10, 11], [1, 2, 3, 4, 5, 6, 7, 8, 9, 10, 11, 12], [0, 1, 2, 3, 4, 5, 6, 7, 8, 9, 10, 11, 12, 13], [0, 1, 2, 3, 4, 5, 6, 7, 8, 9, 10, 11, 12, 13, 14]] [] (by kernel_rfl) (by kernel_rfl) (by kernel_rfl) rfl) | (apply Xg.s; constructor)) | (apply Ab.K.at_; exact at_) | (apply Ab.K.acall; first | assumption | fail) | (apply Ab.Rg.mk; omega) | (apply Ab.Lt.mk; first | decide | (simp; done) | (simp; omega) | fail) | (apply Ab.Get.mk; first | rfl | (first | rfl | (rw [Int.toNat_natCast, Nat.mul_one]; exact hg) | (rw [Int.toNat_natCast]; exact hg))) | (apply Ab.Nm.mk; first | exact nrm_) | (apply Xg.s; constructor) | (apply Ab.asm; assumption) | rfl | infer_instance | decide))
    have G4 := G.set (id := M) (b := .cells true 2 [.int .i64 (base + i), .slice B x.length c2]) (fun q e => by have := hlt q e; omega)
    clear G

    (apply Ab.O.appendL (M + 1); (case hx => exact ev_); (case hL => exact Ab.Gr.lat (by assumption)); (case hy => exact ev_); (case hs => exact srcAll At.hit rfl); (case hk => rfl); (case hm => decide); (case hl => first | rfl | simp); (case hz => decide); (case hb => omega); (case hfree => exact free_))
    intro s4 g
    have Ib := I.boxT (c := .cells true 2 [.int .i64 (base + i), .slice B x.length c2]) T (Nat.le_refl _)
    have I4 := Ib.grew g (fun q e => ⟨(hP q e).z, (hP q e).b⟩)
    have P4 := Prv.new Ib g
    have PN4 := (PN.set (N := M) (c := .cells true 2 [.int .i64 (base + i), .slice B x.length c2])).grew g (fun q e => by have := hge q e; omega)
    have PN14 := (PN1.set (N := M) (c := .cells true 2 [.int .i64 (base + i), .slice B x.length c2])).grew g (fun q e => by have := hge q e; omega)
    have aN4 := Gr.off g (At.miss (by omega) aN) (fun q e => by have := hge q e; omega) (by omega)
    have aN14 := Gr.off g (At.miss (by omega) aN1) (fun q e => by have := hge q e; omega) (by omega)
    have T4 := G4.topN g T.new
    have C4 : Cs 2 (RN b) (xs ++ [.int .i64 (base + i), .slice B x.length c2]) (((nmb base q).drop k).take (i + 1 - k)) := by rw [htk]; exact C.snoc rfl ⟨_, rfl, hu⟩
    have G5 : Gr s4 2 (N + 2) _ _ (i + 1 - k) _ := Gr.app g (by rw [C4.len, List.length_take, List.length_drop, nmb_length]; omega) (by omega)
    rw [show i - k + 1 = i + 1 - k by omega]
    (repeat' (first | (apply Ab.K.ev; exact ev_) | (apply Ab.K.aops; first | (apply Xg.s; constructor) | apply Ab.S.guardG) | (apply Ab.K.aop; first | (apply Og.s; constructor)) | (apply Ab.K.gk; first | (apply Xg.s; constructor) | (apply Ab.gY; case hw => assumption) | (apply Ab.gNT; case hw => assumption) | (apply Ab.gNF; case hw => assumption) | ((first | apply Ab.gD | apply Ab.gDN); all_goals (intro _ _; (first | contradiction | (exfalso; omega) | skip)))) | (apply Ab.K.aopsD; first | (apply Ab.D.q0t; (case hw => rfl); (case hot => rfl)) | (apply Ab.D.w1t; (case hw => rfl); (case hot => rfl)) | (apply Ab.D.q0; (case hw => rfl); intro _ _) | (apply Ab.D.w1n; (case hw => rfl); intro _ _) | (apply Ab.D.w2n; (case hw => rfl); intro _ _) | (apply Xg.s; constructor) | fail | apply Ab.D.guardG) | (apply Ab.K.aopsP; first | apply Ab.Pd.nil | (apply Ab.Pd.q; (case hi => rfl)) | (apply Ab.Pd.z; (case hi => rfl)) | (apply Ab.Pd.zU; (case hi => rfl); (case hd => rfl); (case hb => (exact ev_; done))) | (apply Ab.Pd.zG; (case hi => rfl); (case hd => rfl)) | (apply Ab.Pd.st; (case hi => rfl)) | (apply Ab.Pd.qU; (case hi => rfl); (case hd => rfl); (case hb => (exact ev_; done))) | (apply Ab.Pd.qG; (case hi => rfl); (case hd => rfl)) | (apply Ab.Pd.stU; (case hi => rfl); (case hd => rfl); (case hb => (exact ev_; done))) | (apply Ab.Pd.stG; (case hi => rfl); (case hd => rfl))) | (apply Ab.Pd.qs; intro _ _) | (apply Ab.Pd.nxE; (case hE => rfl)) | (apply Ab.Pd.nxR; (case hr => (repeat' (first | exact Ab.Sub.del _ _ | assumption | (apply Ab.Sub.setI; (case hn => simp)) | (apply Ab.Sub.setF; (case hn => exact free_)) | exact (Ab.Sub.del _ _).trans (by assumption))))) | exact ⟨rfl, rfl⟩ | (apply Ab.K.awp; first | (apply AWp.schedS (id := 3) [(0, 2), (1, 2), (2, 1), (3, 2), (4, 1), (5, 2), (6, 2), (7, 1), (8, 2), (9, 1), (10, 2), (11, 1), (12, 0), (13, 0), (14, 0), (15, 0)] [12, 13, 14, 15] [[], [], [1], [], [3], [1, 2, 3, 4], [], [6], [], [8], [6, 7, 8, 9], [6, 7, 8, 9, 10], [1, 2, 3, 4, 5, 6, 7, 8, 9, 10, 11], [1, 2, 3, 4, 5, 6, 7, 8, 9, 10, 11, 12], [0, 1, 2, 3, 4, 5, 6, 7, 8, 9, 10, 11, 12, 13], [0, 1, 2, 3, 4, 5, 6, 7, 8, 9, 10, 11, 12, 13, 14]] [] (by kernel_rfl) (by kernel_rfl) (by kernel_rfl) rfl) | (apply Xg.s; constructor)) | (apply Ab.K.at_; exact at_) | (apply Ab.K.acall; first | assumption | fail) | (apply Ab.Rg.mk; omega) | (apply Ab.Lt.mk; first | decide | (simp; done) | (simp; omega) | fail) | (apply Ab.Get.mk; first | rfl | (first | rfl | (rw [Int.toNat_natCast, Nat.mul_one]; exact hg) | (rw [Int.toNat_natCast]; exact hg))) | (apply Ab.Nm.mk; first | exact nrm_) | (apply Xg.s; constructor) | (apply Ab.asm; assumption) | rfl | infer_instance | decide))
    refine X.roundN (t - (i + 1)) (by omega) ⟨i + 1, M + 2, _, _, _, by exact ev_, by exact ev_, by exact ev_, ?_, by exact at_, by (repeat' (first | assumption | (apply Ab.Inv.boxP; (case p => (repeat' (first | assumption | apply Ab.Prv.set)))))), by (repeat' (first | assumption | apply Ab.Prv.set)), by (repeat' (first | assumption | apply Ab.Prv.set)), (G5.set fun q e => ?_).set (fun q e => ?_), C4, (fun o e => (by obtain rfl := Option.some.inj e; exact P4.set.set)), (T4.set (by omega)).set (by omega), by omega, by omega, by omega, rfl⟩
    · rw [if_pos (show k < i + 1 by omega), show ((i + 1 : Nat) : Int) = (i : Int) + 1 by omega]; exact At.hit
    · obtain rfl := Option.some.inj e; omega
    · obtain rfl := Option.some.inj e; omega
  · have hie : i = t := by omega
    subst hie
    obtain ⟨b2, I2, hs2, hw, hpr⟩ := G.tell2 datN I hP C
    have hge := G.from_
    obtain ⟨B, c2, rfl, _⟩ := hw.isl
    have PN2 := hpr N (fun e => by have := hge N e; omega) PN
    have PN12 := hpr (N + 1) (fun e => by have := hge (N + 1) e; omega) PN1
    have hu2 := h.sub datQ hs2
    clear PN PN1 I
    by_cases h16 : (i : Int) < 16
    all_goals (repeat' (first | (apply Ab.K.ev; exact ev_) | (apply Ab.K.aops; first | (apply Xg.s; constructor) | apply Ab.S.guardG) | (apply Ab.K.aop; first | (apply Og.s; constructor)) | (apply Ab.K.gk; first | (apply Xg.s; constructor) | (apply Ab.gY; case hw => assumption) | (apply Ab.gNT; case hw => assumption) | (apply Ab.gNF; case hw => assumption) | ((first | apply Ab.gD | apply Ab.gDN); all_goals (intro _ _; (first | contradiction | (exfalso; omega) | skip)))) | (apply Ab.K.aopsD; first | (apply Ab.D.q0t; (case hw => rfl); (case hot => rfl)) | (apply Ab.D.w1t; (case hw => rfl); (case hot => rfl)) | (apply Ab.D.q0; (case hw => rfl); intro _ _) | (apply Ab.D.w1n; (case hw => rfl); intro _ _) | (apply Ab.D.w2n; (case hw => rfl); intro _ _) | (apply Xg.s; constructor) | fail | apply Ab.D.guardG) | (apply Ab.K.aopsP; first | apply Ab.Pd.nil | (apply Ab.Pd.q; (case hi => rfl)) | (apply Ab.Pd.z; (case hi => rfl)) | (apply Ab.Pd.zU; (case hi => rfl); (case hd => rfl); (case hb => (exact ev_; done))) | (apply Ab.Pd.zG; (case hi => rfl); (case hd => rfl)) | (apply Ab.Pd.st; (case hi => rfl)) | (apply Ab.Pd.qU; (case hi => rfl); (case hd => rfl); (case hb => (exact ev_; done))) | (apply Ab.Pd.qG; (case hi => rfl); (case hd => rfl)) | (apply Ab.Pd.stU; (case hi => rfl); (case hd => rfl); (case hb => (exact ev_; done))) | (apply Ab.Pd.stG; (case hi => rfl); (case hd => rfl))) | (apply Ab.Pd.qs; intro _ _) | (apply Ab.Pd.nxE; (case hE => rfl)) | (apply Ab.Pd.nxR; (case hr => (repeat' (first | exact Ab.Sub.del _ _ | assumption | (apply Ab.Sub.setI; (case hn => simp)) | (apply Ab.Sub.setF; (case hn => exact free_)) | exact (Ab.Sub.del _ _).trans (by assumption))))) | exact ⟨rfl, rfl⟩ | (apply Ab.K.awp; first | (apply AWp.schedS (id := 3) [(0, 2), (1, 2), (2, 1), (3, 2), (4, 1), (5, 2), (6, 2), (7, 1), (8, 2), (9, 1), (10, 2), (11, 1), (12, 0), (13, 0), (14, 0), (15, 0)] [12, 13, 14, 15] [[], [], [1], [], [3], [1, 2, 3, 4], [], [6], [], [8], [6, 7, 8, 9], [6, 7, 8, 9, 10], [1, 2, 3, 4, 5, 6, 7, 8, 9, 10, 11], [1, 2, 3, 4, 5, 6, 7, 8, 9, 10, 11, 12], [0, 1, 2, 3, 4, 5, 6, 7, 8, 9, 10, 11, 12, 13], [0, 1, 2, 3, 4, 5, 6, 7, 8, 9, 10, 11, 12, 13, 14]] [] (by kernel_rfl) (by kernel_rfl) (by kernel_rfl) rfl) | (apply Xg.s; constructor)) | (apply Ab.K.at_; exact at_) | (apply Ab.K.acall; first | assumption | fail) | (apply Ab.Rg.mk; omega) | (apply Ab.Lt.mk; first | decide | (simp; done) | (simp; omega) | fail) | (apply Ab.Get.mk; first | rfl | (first | rfl | (rw [Int.toNat_natCast, Nat.mul_one]; exact hg) | (rw [Int.toNat_natCast]; exact hg))) | (apply Ab.Nm.mk; first | exact nrm_) | (apply Xg.s; constructor) | (apply Ab.asm; assumption) | rfl | infer_instance | decide))
    all_goals apply RetE.puR (b := b2)
    case I => (repeat' (first | assumption | (apply Ab.Inv.boxP; (case p => (repeat' (first | assumption | apply Ab.Prv.set))))))
    case I => (repeat' (first | assumption | (apply Ab.Inv.boxP; (case p => (repeat' (first | assumption | apply Ab.Prv.set))))))
    case he => exact evr_
    case he => exact evr_
    case hg => rfl
    case hg => rfl
    case hq => exact (RR.mk ⟨_, rfl, hu2⟩ hw).1
    case hq => exact (RR.mk ⟨_, rfl, hu2⟩ hw).1
    all_goals exact (RR.mk (y := ⟨base, (i : Nat), q, if k < i then 4 else clock⟩) ⟨_, rfl, hu2⟩ hw).2
set_option maxHeartbeats 4000000 in
theorem same41' {s : AHeap} {base sent clock base' sent' clock' : Int} {v w : Value} {q r : List (List Int)} (h : Qt s v q) (k : Qt s w r) (hq : q.length ≤ 1000000000) (hr : r.length ≤ 1000000000) :
    ACall Try.prog 41 [.agg #[.int .i64 base, .int .i64 sent, v, .int .i64 clock], .agg #[.int .i64 base', .int .i64 sent', w, .int .i64 clock']] s (.bool (decide ((base = base' ∧ sent = sent' ∧ clock = clock') ∧ q = r))) s := by
  refine ACall.make Try.func41 rfl (by kernel_rfl) (by decide) rfl (fun N hN0 => ?_)
  have hT : Top N s := hN0
  have F1 : Fr ((s.set N (.cells true 1 [.int .i64 base, .int .i64 sent, v, .int .i64 clock])).set (N + 1) (.cells true 1 [.int .i64 base', .int .i64 sent', w, .int .i64 clock'])) s [] := Fr.new (hT.free (by omega)) (Fr.new (hT.free (Nat.le_refl _)) (Fr.refl _ _))
  have hS : Sub s ((s.set N (.cells true 1 [.int .i64 base, .int .i64 sent, v, .int .i64 clock])).set (N + 1) (.cells true 1 [.int .i64 base', .int .i64 sent', w, .int .i64 clock'])) := fun i c hc => F1 i (by simp) c hc
  have cc := equal71 (h.sub datQ hS) (k.sub datQ hS) hq hr
  obtain ⟨A, cap, rfl, hcap⟩ := h.isl
  obtain ⟨B, cap2, rfl, hcap2⟩ := k.isl
  by_cases hb : base = base' ∧ sent = sent' ∧ clock = clock'
  case' pos => rw [show decide ((base = base' ∧ sent = sent' ∧ clock = clock') ∧ q = r) = decide (q = r) from decide_eq_decide.2 ⟨fun h => h.2, fun h => ⟨hb, h⟩⟩]; obtain ⟨h1, h2, h3⟩ := hb
  case' neg => rw [decide_eq_false (fun h : (base = base' ∧ sent = sent' ∧ clock = clock') ∧ q = r => hb h.1)]; by_cases h1 : base = base'; case' pos => (by_cases h2 : sent = sent')
  all_goals clear h k
  all_goals (repeat' (first | (apply Ab.K.ev; exact ev_) | (apply Ab.K.aops; first | (apply Xg.s; constructor) | apply Ab.S.guardG) | (apply Ab.K.aop; first | (first | (apply Ab.O.boxA N; (case hx => exact ev_); (case hid => exact frees_)) | (apply Ab.O.boxA (N + 1); (case hx => exact ev_); (case hid => exact frees_))) | (apply Og.s; constructor)) | (apply Ab.K.gk; first | (apply Xg.s; constructor) | (apply Ab.gY; case hw => assumption) | (apply Ab.gNT; case hw => assumption) | (apply Ab.gNF; case hw => assumption) | ((first | apply Ab.gD | apply Ab.gDN); all_goals (intro _ _; (first | contradiction | (exfalso; omega) | skip)))) | (apply Ab.K.awp; first | (apply Xg.s; constructor)) | (apply Ab.K.at_; exact at_) | (apply Ab.K.acall; first | assumption | fail) | (apply Ab.Rg.mk; omega) | (apply Ab.Lt.mk; first | decide | (simp; done) | (simp; omega) | fail) | (apply Ab.Get.mk; first | rfl | (first | rfl | (rw [Int.toNat_natCast, Nat.mul_one]; exact hg) | (rw [Int.toNat_natCast]; exact hg))) | (apply Ab.Nm.mk; first | exact nrm_) | (apply Xg.s; constructor) | (apply Ab.asm; assumption) | rfl | infer_instance | decide))
  all_goals ((first | apply RetQ.ret | apply RetQ.normal); (case he => exact evr_); (case hg => rfl))
  all_goals first | rfl | exact Keeps.fr F1 (plR.nm rfl) | (exfalso; omega)
set_option maxHeartbeats 4000000 in
theorem same40' {s : AHeap} {base sent clock base' sent' clock' : Int} {v w : Value} {q r : List (List Int)} (h : Qt s v q) (k : Qt s w r) (hq : q.length ≤ 1000000000) (hr : r.length ≤ 1000000000) :
    ACall Try.prog 40 [.agg #[.int .i64 base, .int .i64 sent, v, .int .i64 clock], .agg #[.int .i64 base', .int .i64 sent', w, .int .i64 clock']] s (.bool (decide ((base = base' ∧ sent = sent' ∧ clock = clock') ∧ q = r))) s := by
  refine ACall.make Try.func40 rfl (by kernel_rfl) (by decide) rfl (fun N hN0 => ?_)
  have hT : Top N s := hN0
  obtain ⟨A, cap, rfl, hcap⟩ := h.isl
  obtain ⟨B, cap2, rfl, hcap2⟩ := k.isl
  have F1 : Fr ((s.set N (.cells true 1 [.int .i64 base, .int .i64 sent, .slice A q.length cap, .int .i64 clock])).set (N + 1) (.cells true 1 [.int .i64 base', .int .i64 sent', .slice B r.length cap2, .int .i64 clock'])) s [] := Fr.new (hT.free (by omega)) (Fr.new (hT.free (Nat.le_refl _)) (Fr.refl _ _))
  have hS : Sub s ((s.set N (.cells true 1 [.int .i64 base, .int .i64 sent, .slice A q.length cap, .int .i64 clock])).set (N + 1) (.cells true 1 [.int .i64 base', .int .i64 sent', .slice B r.length cap2, .int .i64 clock'])) := fun i c hc => F1 i (by simp) c hc
  by_cases hb : (base = base' ∧ sent = sent' ∧ clock = clock') ∧ q.length = r.length
  case neg =>
    rw [decide_eq_false (fun h : (base = base' ∧ sent = sent' ∧ clock = clock') ∧ q = r => hb ⟨h.1, by rw [h.2]⟩)]
    clear h k
    (repeat' (first | (apply Ab.K.ev; exact ev_) | (apply Ab.K.aops; first | (apply Xg.s; constructor) | apply Ab.S.guardG) | (apply Ab.K.aop; first | (first | (apply Ab.O.boxA N; (case hx => exact ev_); (case hid => exact frees_)) | (apply Ab.O.boxA (N + 1); (case hx => exact ev_); (case hid => exact frees_))) | (apply Og.s; constructor)) | (apply Ab.K.gk; first | (apply Xg.s; constructor) | (apply Ab.gY; case hw => assumption) | (apply Ab.gNT; case hw => assumption) | (apply Ab.gNF; case hw => assumption) | ((first | apply Ab.gD | apply Ab.gDN); all_goals (intro _ _; (first | contradiction | (exfalso; omega) | skip)))) | (apply Ab.K.aopsD; first | (apply Ab.D.q0t; (case hw => rfl); (case hot => rfl)) | (apply Ab.D.w1t; (case hw => rfl); (case hot => rfl)) | (apply Ab.D.q0; (case hw => rfl); intro _ _) | (apply Ab.D.w1n; (case hw => rfl); intro _ _) | (apply Ab.D.w2n; (case hw => rfl); intro _ _) | (apply Xg.s; constructor) | fail | apply Ab.D.guardG) | (apply Ab.K.aopsP; first | apply Ab.Pd.nil | (apply Ab.Pd.q; (case hi => rfl)) | (apply Ab.Pd.z; (case hi => rfl)) | (apply Ab.Pd.zU; (case hi => rfl); (case hd => rfl); (case hb => (exact ev_; done))) | (apply Ab.Pd.zG; (case hi => rfl); (case hd => rfl)) | (apply Ab.Pd.st; (case hi => rfl)) | (apply Ab.Pd.qU; (case hi => rfl); (case hd => rfl); (case hb => (exact ev_; done))) | (apply Ab.Pd.qG; (case hi => rfl); (case hd => rfl)) | (apply Ab.Pd.stU; (case hi => rfl); (case hd => rfl); (case hb => (exact ev_; done))) | (apply Ab.Pd.stG; (case hi => rfl); (case hd => rfl))) | (apply Ab.Pd.qs; intro _ _) | (apply Ab.Pd.nxE; (case hE => rfl)) | (apply Ab.Pd.nxR; (case hr => (repeat' (first | exact Ab.Sub.del _ _ | assumption | (apply Ab.Sub.setI; (case hn => simp)) | (apply Ab.Sub.setF; (case hn => exact free_)) | exact (Ab.Sub.del _ _).trans (by assumption))))) | exact ⟨rfl, rfl⟩ | (apply Ab.K.awp; first | (apply AWp.schedS (id := 6) [(0, 2), (1, 1), (2, 2), (3, 2), (4, 1), (5, 1), (6, 2), (7, 1), (8, 2), (9, 2), (10, 1), (11, 1), (12, 0)] [12] [[], [0], [], [0, 1, 2], [0, 1, 2, 3], [0, 1, 2, 3, 4], [], [6], [], [6, 7, 8], [6, 7, 8, 9], [6, 7, 8, 9, 10], [0, 1, 2, 3, 4, 5, 6, 7, 8, 9, 10, 11]] [] (by kernel_rfl) (by kernel_rfl) (by kernel_rfl) rfl) | (apply Xg.s; constructor)) | (apply Ab.K.at_; exact at_) | (apply Ab.K.acall; first | assumption | fail) | (apply Ab.Rg.mk; omega) | (apply Ab.Lt.mk; first | decide | (simp; done) | (simp; omega) | fail) | (apply Ab.Get.mk; first | rfl | (first | rfl | (rw [Int.toNat_natCast, Nat.mul_one]; exact hg) | (rw [Int.toNat_natCast]; exact hg))) | (apply Ab.Nm.mk; first | exact nrm_) | (apply Xg.s; constructor) | (apply Ab.asm; assumption) | rfl | infer_instance | decide))
    all_goals ((first | apply RetQ.ret | apply RetQ.normal); (case he => exact evr_); (case hg => rfl))
    all_goals first | rfl | exact Keeps.fr F1 (plR.nm rfl)
  obtain ⟨⟨h1, h2, h3⟩, hl⟩ := hb
  rw [show decide ((base = base' ∧ sent = sent' ∧ clock = clock') ∧ q = r) = decide (q = r) from decide_eq_decide.2 ⟨fun h => h.2, fun h => ⟨⟨h1, h2, h3⟩, h⟩⟩]
  subst h1 h2 h3
  obtain ⟨s1, hs1⟩ : ∃ s1 : AHeap, s1 = (s.set N (.cells true 1 [.int .i64 base, .int .i64 sent, .slice A q.length cap, .int .i64 clock])).set (N + 1) (.cells true 1 [.int .i64 base, .int .i64 sent, .slice B r.length cap2, .int .i64 clock]) := ⟨_, rfl⟩
  have aN : At s1 N (.cells true 1 [.int .i64 base, .int .i64 sent, .slice A q.length cap, .int .i64 clock]) := by rw [hs1]; exact at_
  have aN1 : At s1 (N + 1) (.cells true 1 [.int .i64 base, .int .i64 sent, .slice B r.length cap2, .int .i64 clock]) := by rw [hs1]; exact At.hit
  (repeat' (first | (apply Ab.K.ev; exact ev_) | (apply Ab.K.aops; first | (apply Xg.s; constructor) | apply Ab.S.guardG) | (apply Ab.K.aop; first | (first | (apply Ab.O.boxA N; (case hx => exact ev_); (case hid => exact frees_)) | (apply Ab.O.boxA (N + 1); (case hx => exact ev_); (case hid => exact frees_))) | (apply Og.s; constructor)) | (apply Ab.K.gk; first | (apply Xg.s; constructor) | (apply Ab.gY; case hw => assumption) | (apply Ab.gNT; case hw => assumption) | (apply Ab.gNF; case hw => assumption) | ((first | apply Ab.gD | apply Ab.gDN); all_goals (intro _ _; (first | contradiction | (exfalso; omega) | skip)))) | (apply Ab.K.aopsD; first | (apply Ab.D.q0t; (case hw => rfl); (case hot => rfl)) | (apply Ab.D.w1t; (case hw => rfl); (case hot => rfl)) | (apply Ab.D.q0; (case hw => rfl); intro _ _) | (apply Ab.D.w1n; (case hw => rfl); intro _ _) | (apply Ab.D.w2n; (case hw => rfl); intro _ _) | (apply Xg.s; constructor) | fail | apply Ab.D.guardG) | (apply Ab.K.aopsP; first | apply Ab.Pd.nil | (apply Ab.Pd.q; (case hi => rfl)) | (apply Ab.Pd.z; (case hi => rfl)) | (apply Ab.Pd.zU; (case hi => rfl); (case hd => rfl); (case hb => (exact ev_; done))) | (apply Ab.Pd.zG; (case hi => rfl); (case hd => rfl)) | (apply Ab.Pd.st; (case hi => rfl)) | (apply Ab.Pd.qU; (case hi => rfl); (case hd => rfl); (case hb => (exact ev_; done))) | (apply Ab.Pd.qG; (case hi => rfl); (case hd => rfl)) | (apply Ab.Pd.stU; (case hi => rfl); (case hd => rfl); (case hb => (exact ev_; done))) | (apply Ab.Pd.stG; (case hi => rfl); (case hd => rfl))) | (apply Ab.Pd.qs; intro _ _) | (apply Ab.Pd.nxE; (case hE => rfl)) | (apply Ab.Pd.nxR; (case hr => (repeat' (first | exact Ab.Sub.del _ _ | assumption | (apply Ab.Sub.setI; (case hn => simp)) | (apply Ab.Sub.setF; (case hn => exact free_)) | exact (Ab.Sub.del _ _).trans (by assumption))))) | exact ⟨rfl, rfl⟩ | (apply Ab.K.awp; first | (apply AWp.schedS (id := 6) [(0, 2), (1, 1), (2, 2), (3, 2), (4, 1), (5, 1), (6, 2), (7, 1), (8, 2), (9, 2), (10, 1), (11, 1), (12, 0)] [12] [[], [0], [], [0, 1, 2], [0, 1, 2, 3], [0, 1, 2, 3, 4], [], [6], [], [6, 7, 8], [6, 7, 8, 9], [6, 7, 8, 9, 10], [0, 1, 2, 3, 4, 5, 6, 7, 8, 9, 10, 11]] [] (by kernel_rfl) (by kernel_rfl) (by kernel_rfl) rfl) | (apply Xg.s; constructor)) | (apply Ab.K.at_; exact at_) | (apply Ab.K.acall; first | assumption | fail) | (apply Ab.Rg.mk; omega) | (apply Ab.Lt.mk; first | decide | (simp; done) | (simp; omega) | fail) | (apply Ab.Get.mk; first | rfl | (first | rfl | (rw [Int.toNat_natCast, Nat.mul_one]; exact hg) | (rw [Int.toNat_natCast]; exact hg))) | (apply Ab.Nm.mk; first | exact nrm_) | (apply Xg.s; constructor) | (apply Ab.asm; assumption) | rfl | infer_instance | decide))
  rw [← hs1]
  rw [← hs1] at F1 hS
  refine AWp.loop (fun kk tm s2 => ∃ (i : Nat), Ev tm (.tmp 2) (.pointer (some ⟨N, 0, none⟩)) ∧ Ev tm (.tmp 3) (.pointer (some ⟨N + 1, 0, none⟩)) ∧ Ev tm (.tmp 5) (.int .i64 i) ∧ s2 = s1 ∧ q.take i = r.take i ∧ i ≤ q.length ∧ kk = q.length - i) q.length ?_ ?_
  · exact ⟨0, by exact ev_, by exact ev_, by exact ev_, rfl, rfl, by omega, rfl⟩
  rintro kk tm s2 ⟨i, e2, e3, e5, rfl, hnb, hi, hkk⟩
  by_cases hin : i < q.length
  · obtain ⟨x, hx⟩ : ∃ x, q[i]? = some x := ⟨_, List.getElem?_eq_getElem hin⟩
    obtain ⟨y, hy⟩ : ∃ y, r[i]? = some y := ⟨_, List.getElem?_eq_getElem (by omega)⟩
    have htk : q.take (i + 1) = q.take i ++ [x] := by rw [List.take_add_one, hx]; rfl
    have htk2 : r.take (i + 1) = r.take i ++ [y] := by rw [List.take_add_one, hy]; rfl
    obtain ⟨o, off, c, sp, rw', cs, u, e, _, ha, hg, hu⟩ := h.qelt hx
    obtain ⟨rfl, rfl⟩ : A = some ⟨o, off, sp⟩ ∧ cap = c := by injection e with e1 e2 e3; exact ⟨e1, e3⟩
    obtain ⟨o', off', c', sp', rw'', cs', u', e', _, ha', hg', hu'⟩ := k.qelt hy
    obtain ⟨rfl, rfl⟩ : B = some ⟨o', off', sp'⟩ ∧ cap2 = c' := by injection e' with e1 e2 e3; exact ⟨e1, e3⟩
    have a1 := hS.at_ ha
    have a1' := hS.at_ ha'
    have hst := strOf_dec hu.byt hu'.byt
    have hub : ∀ t', Sub (Ab.del s2 []) t' → Bt t' u x := fun t' h => hu.bt (fun i c hc => h i c (by unfold Ab.del; rw [if_neg (by simp)]; exact hS i c hc))
    have hub' : ∀ t', Sub (Ab.del s2 []) t' → Bt t' u' y := fun t' h => hu'.bt (fun i c hc => h i c (by unfold Ab.del; rw [if_neg (by simp)]; exact hS i c hc))


    by_cases hb : x = y
    · replace hst : (!decide ((strOf x).data.toList = (strOf y).data.toList)) = false := by rw [hst, decide_eq_true hb]; rfl
      (repeat' (first | (apply Ab.K.ev; exact ev_) | (apply Ab.K.aops; first | (apply Xg.s; constructor) | apply Ab.S.guardG) | (apply Ab.K.aop; first | (first | (apply Ab.O.strB; (case hx => exact ev_); (case h => exact hub _ (by assumption))) | (apply Ab.O.strB; (case hx => exact ev_); (case h => exact hub' _ (by assumption)))) | (apply Ab.O.strNe; (case hx => exact ev_); (case hy => exact ev_); (case h => rw [hst])) | (apply Og.s; constructor)) | (apply Ab.K.gk; first | (apply Xg.s; constructor) | (apply Ab.gY; case hw => assumption) | (apply Ab.gNT; case hw => assumption) | (apply Ab.gNF; case hw => assumption) | ((first | apply Ab.gD | apply Ab.gDN); all_goals (intro _ _; (first | contradiction | (exfalso; omega) | skip)))) | (apply Ab.K.aopsD; first | (apply Ab.D.q0t; (case hw => rfl); (case hot => rfl)) | (apply Ab.D.w1t; (case hw => rfl); (case hot => rfl)) | (apply Ab.D.q0; (case hw => rfl); intro _ _) | (apply Ab.D.w1n; (case hw => rfl); intro _ _) | (apply Ab.D.w2n; (case hw => rfl); intro _ _) | (apply Xg.s; constructor) | fail | apply Ab.D.guardG) | (apply Ab.K.aopsP; first | apply Ab.Pd.nil | (apply Ab.Pd.q; (case hi => rfl)) | (apply Ab.Pd.z; (case hi => rfl)) | (apply Ab.Pd.zU; (case hi => rfl); (case hd => rfl); (case hb => (exact ev_; done))) | (apply Ab.Pd.zG; (case hi => rfl); (case hd => rfl)) | (apply Ab.Pd.st; (case hi => rfl)) | (apply Ab.Pd.qU; (case hi => rfl); (case hd => rfl); (case hb => (exact ev_; done))) | (apply Ab.Pd.qG; (case hi => rfl); (case hd => rfl)) | (apply Ab.Pd.stU; (case hi => rfl); (case hd => rfl); (case hb => (exact ev_; done))) | (apply Ab.Pd.stG; (case hi => rfl); (case hd => rfl))) | (apply Ab.Pd.qs; intro _ _) | (apply Ab.Pd.nxE; (case hE => rfl)) | (apply Ab.Pd.nxR; (case hr => (repeat' (first | exact Ab.Sub.del _ _ | assumption | (apply Ab.Sub.setI; (case hn => simp)) | (apply Ab.Sub.setF; (case hn => exact free_)) | exact (Ab.Sub.del _ _).trans (by assumption))))) | exact ⟨rfl, rfl⟩ | (apply Ab.K.awp; first | (apply AWp.schedS (id := 6) [(0, 2), (1, 1), (2, 2), (3, 2), (4, 1), (5, 1), (6, 2), (7, 1), (8, 2), (9, 2), (10, 1), (11, 1), (12, 0)] [12] [[], [0], [], [0, 1, 2], [0, 1, 2, 3], [0, 1, 2, 3, 4], [], [6], [], [6, 7, 8], [6, 7, 8, 9], [6, 7, 8, 9, 10], [0, 1, 2, 3, 4, 5, 6, 7, 8, 9, 10, 11]] [] (by kernel_rfl) (by kernel_rfl) (by kernel_rfl) rfl) | (apply Xg.s; constructor)) | (apply Ab.K.at_; exact at_) | (apply Ab.K.acall; first | assumption | fail) | (apply Ab.Rg.mk; omega) | (apply Ab.Lt.mk; first | decide | (simp; done) | (simp; omega) | fail) | (apply Ab.Get.mk; first | rfl | (first | rfl | (rw [Int.toNat_natCast, Nat.mul_one]; (first | exact hg | exact hg')) | (rw [Int.toNat_natCast]; (first | exact hg | exact hg')))) | (apply Ab.Nm.mk; first | exact nrm_) | (apply Xg.s; constructor) | (apply Ab.asm; assumption) | rfl | infer_instance | decide))
      exact X.roundN (q.length - (i + 1)) (by omega) ⟨i + 1, by exact ev_, by exact ev_, by exact ev_, rfl, by rw [htk, htk2, hnb, hb], by omega, by omega⟩
    · replace hst : (!decide ((strOf x).data.toList = (strOf y).data.toList)) = true := by rw [hst, decide_eq_false hb]; rfl
      rw [decide_eq_false (fun e : q = r => hb (by rw [e, hy] at hx; exact (Option.some.inj hx).symm))]
      (repeat' (first | (apply Ab.K.ev; exact ev_) | (apply Ab.K.aops; first | (apply Xg.s; constructor) | apply Ab.S.guardG) | (apply Ab.K.aop; first | (first | (apply Ab.O.strB; (case hx => exact ev_); (case h => exact hub _ (by assumption))) | (apply Ab.O.strB; (case hx => exact ev_); (case h => exact hub' _ (by assumption)))) | (apply Ab.O.strNe; (case hx => exact ev_); (case hy => exact ev_); (case h => rw [hst])) | (apply Og.s; constructor)) | (apply Ab.K.gk; first | (apply Xg.s; constructor) | (apply Ab.gY; case hw => assumption) | (apply Ab.gNT; case hw => assumption) | (apply Ab.gNF; case hw => assumption) | ((first | apply Ab.gD | apply Ab.gDN); all_goals (intro _ _; (first | contradiction | (exfalso; omega) | skip)))) | (apply Ab.K.aopsD; first | (apply Ab.D.q0t; (case hw => rfl); (case hot => rfl)) | (apply Ab.D.w1t; (case hw => rfl); (case hot => rfl)) | (apply Ab.D.q0; (case hw => rfl); intro _ _) | (apply Ab.D.w1n; (case hw => rfl); intro _ _) | (apply Ab.D.w2n; (case hw => rfl); intro _ _) | (apply Xg.s; constructor) | fail | apply Ab.D.guardG) | (apply Ab.K.aopsP; first | apply Ab.Pd.nil | (apply Ab.Pd.q; (case hi => rfl)) | (apply Ab.Pd.z; (case hi => rfl)) | (apply Ab.Pd.zU; (case hi => rfl); (case hd => rfl); (case hb => (exact ev_; done))) | (apply Ab.Pd.zG; (case hi => rfl); (case hd => rfl)) | (apply Ab.Pd.st; (case hi => rfl)) | (apply Ab.Pd.qU; (case hi => rfl); (case hd => rfl); (case hb => (exact ev_; done))) | (apply Ab.Pd.qG; (case hi => rfl); (case hd => rfl)) | (apply Ab.Pd.stU; (case hi => rfl); (case hd => rfl); (case hb => (exact ev_; done))) | (apply Ab.Pd.stG; (case hi => rfl); (case hd => rfl))) | (apply Ab.Pd.qs; intro _ _) | (apply Ab.Pd.nxE; (case hE => rfl)) | (apply Ab.Pd.nxR; (case hr => (repeat' (first | exact Ab.Sub.del _ _ | assumption | (apply Ab.Sub.setI; (case hn => simp)) | (apply Ab.Sub.setF; (case hn => exact free_)) | exact (Ab.Sub.del _ _).trans (by assumption))))) | exact ⟨rfl, rfl⟩ | (apply Ab.K.awp; first | (apply AWp.schedS (id := 6) [(0, 2), (1, 1), (2, 2), (3, 2), (4, 1), (5, 1), (6, 2), (7, 1), (8, 2), (9, 2), (10, 1), (11, 1), (12, 0)] [12] [[], [0], [], [0, 1, 2], [0, 1, 2, 3], [0, 1, 2, 3, 4], [], [6], [], [6, 7, 8], [6, 7, 8, 9], [6, 7, 8, 9, 10], [0, 1, 2, 3, 4, 5, 6, 7, 8, 9, 10, 11]] [] (by kernel_rfl) (by kernel_rfl) (by kernel_rfl) rfl) | (apply Xg.s; constructor)) | (apply Ab.K.at_; exact at_) | (apply Ab.K.acall; first | assumption | fail) | (apply Ab.Rg.mk; omega) | (apply Ab.Lt.mk; first | decide | (simp; done) | (simp; omega) | fail) | (apply Ab.Get.mk; first | rfl | (first | rfl | (rw [Int.toNat_natCast, Nat.mul_one]; (first | exact hg | exact hg')) | (rw [Int.toNat_natCast]; (first | exact hg | exact hg')))) | (apply Ab.Nm.mk; first | exact nrm_) | (apply Xg.s; constructor) | (apply Ab.asm; assumption) | rfl | infer_instance | decide))
      all_goals ((first | apply RetQ.ret | apply RetQ.normal); (case he => exact evr_); (case hg => rfl))
      all_goals first | rfl | exact Keeps.fr F1 (plR.nm rfl)
  · obtain rfl : i = q.length := by omega
    rw [List.take_length, hl, List.take_length] at hnb
    rw [decide_eq_true hnb]

    (repeat' (first | (apply Ab.K.ev; exact ev_) | (apply Ab.K.aops; first | (apply Xg.s; constructor) | apply Ab.S.guardG) | (apply Ab.K.aop; first | (apply Og.s; constructor)) | (apply Ab.K.gk; first | (apply Xg.s; constructor) | (apply Ab.gY; case hw => assumption) | (apply Ab.gNT; case hw => assumption) | (apply Ab.gNF; case hw => assumption) | ((first | apply Ab.gD | apply Ab.gDN); all_goals (intro _ _; (first | contradiction | (exfalso; omega) | skip)))) | (apply Ab.K.aopsD; first | (apply Ab.D.q0t; (case hw => rfl); (case hot => rfl)) | (apply Ab.D.w1t; (case hw => rfl); (case hot => rfl)) | (apply Ab.D.q0; (case hw => rfl); intro _ _) | (apply Ab.D.w1n; (case hw => rfl); intro _ _) | (apply Ab.D.w2n; (case hw => rfl); intro _ _) | (apply Xg.s; constructor) | fail | apply Ab.D.guardG) | (apply Ab.K.aopsP; first | apply Ab.Pd.nil | (apply Ab.Pd.q; (case hi => rfl)) | (apply Ab.Pd.z; (case hi => rfl)) | (apply Ab.Pd.zU; (case hi => rfl); (case hd => rfl); (case hb => (exact ev_; done))) | (apply Ab.Pd.zG; (case hi => rfl); (case hd => rfl)) | (apply Ab.Pd.st; (case hi => rfl)) | (apply Ab.Pd.qU; (case hi => rfl); (case hd => rfl); (case hb => (exact ev_; done))) | (apply Ab.Pd.qG; (case hi => rfl); (case hd => rfl)) | (apply Ab.Pd.stU; (case hi => rfl); (case hd => rfl); (case hb => (exact ev_; done))) | (apply Ab.Pd.stG; (case hi => rfl); (case hd => rfl))) | (apply Ab.Pd.qs; intro _ _) | (apply Ab.Pd.nxE; (case hE => rfl)) | (apply Ab.Pd.nxR; (case hr => (repeat' (first | exact Ab.Sub.del _ _ | assumption | (apply Ab.Sub.setI; (case hn => simp)) | (apply Ab.Sub.setF; (case hn => exact free_)) | exact (Ab.Sub.del _ _).trans (by assumption))))) | exact ⟨rfl, rfl⟩ | (apply Ab.K.awp; first | (apply AWp.schedS (id := 6) [(0, 2), (1, 1), (2, 2), (3, 2), (4, 1), (5, 1), (6, 2), (7, 1), (8, 2), (9, 2), (10, 1), (11, 1), (12, 0)] [12] [[], [0], [], [0, 1, 2], [0, 1, 2, 3], [0, 1, 2, 3, 4], [], [6], [], [6, 7, 8], [6, 7, 8, 9], [6, 7, 8, 9, 10], [0, 1, 2, 3, 4, 5, 6, 7, 8, 9, 10, 11]] [] (by kernel_rfl) (by kernel_rfl) (by kernel_rfl) rfl) | (apply Xg.s; constructor)) | (apply Ab.K.at_; exact at_) | (apply Ab.K.acall; first | assumption | fail) | (apply Ab.Rg.mk; omega) | (apply Ab.Lt.mk; first | decide | (simp; done) | (simp; omega) | fail) | (apply Ab.Get.mk; first | rfl | (first | rfl | (rw [Int.toNat_natCast, Nat.mul_one]; (first | exact hg | exact hg')) | (rw [Int.toNat_natCast]; (first | exact hg | exact hg')))) | (apply Ab.Nm.mk; first | exact nrm_) | (apply Xg.s; constructor) | (apply Ab.asm; assumption) | rfl | infer_instance | decide))
    all_goals ((first | apply RetQ.ret | apply RetQ.normal); (case he => exact evr_); (case hg => rfl))
    all_goals first | rfl | exact Keeps.fr F1 (plR.nm rfl)
end Go.Proofs.Ytoiplbackllgfaa
