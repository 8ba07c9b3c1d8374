/- texts of this claim, one behind the other: LH, LI, LJ, LL. -/
import Derived.Test.YtoiplbackllgfaaM13

/- lines: what senders send at a tick, by the program. -/
namespace Go.Proofs.Ytoiplbackllgfaa
set_option linter.unusedVariables false
set_option linter.unusedSimpArgs false
set_option linter.unusedSectionVars false
open Go.RowKit Ab HP
attribute [local irreducible] AOps AOpsD AOpsP QStep NX AOp AWp put nargs AHeap.set At Free ACall ACallE thenQ blockQ roundQ RetQ RetE Src Gr
set_option maxHeartbeats 4000000 in
theorem tick57' {s b : AHeap} {base clock : Int} {k : Nat} {v : Value} {q : List (List Int)} (hb : Sub b s) (h : Qt b v q) (hm : Sd.May ⟨base, k, q, clock⟩) :
    ACallE Try.prog 57 [.agg #[.int .i64 base, .int .i64 k, v, .int .i64 clock]] s (Pu s b (R3 (tickS ⟨base, k, q, clock⟩).1 (tickS ⟨base, k, q, clock⟩).2)) := by
  have hq : q.length ≤ 256 := hm.1.2.1
  have hl : ∀ x ∈ q, x.length ≤ 1000000000 := fun x hx => Nat.le_trans (big_get hm.2 x hx) (by omega)
  have hO := hm.1
  simp only [Sd.Ok] at hO
  refine ACallE.make Try.func57 rfl (by kernel_rfl) (by decide) rfl (fun N hN0 => ?_)
  have hT : Top N s := hN0
  obtain ⟨A, cap, rfl, hcap⟩ := h.isl
  obtain ⟨s1, hs1⟩ : ∃ s1 : AHeap, s1 = (s.set N (.cells true 1 [.int .i64 base, .int .i64 k, .slice A q.length cap, .int .i64 clock])).set (N + 1) (.cells true 1 [.int .i64 0, .int .i64 0, .slice none 0 0, .int .i64 0]) := ⟨_, rfl⟩
  have I1 : Inv s b s1 b := by rw [hs1]; exact ((Inv.refl hb).boxT hT (Nat.le_refl _)).boxT hT.new (Nat.le_refl _)
  have PN : Prv s s1 b N := by rw [hs1]; exact (Prv.mk' (Inv.refl hb) (hT.none (Nat.le_refl _))).set
  have PN1 : Prv s s1 b (N + 1) := by rw [hs1]; exact Prv.mk' ((Inv.refl hb).boxT hT (Nat.le_refl _)) (hT.new.none (Nat.le_refl _))
  have T1 : Top (N + 2) s1 := by rw [hs1]; exact hT.new.new
  have aN : At s1 N (.cells true 1 [.int .i64 base, .int .i64 k, .slice A q.length cap, .int .i64 clock]) := by rw [hs1]; exact at_
  have aN1 : At s1 (N + 1) (.cells true 1 [.int .i64 0, .int .i64 0, .slice none 0 0, .int .i64 0]) := by rw [hs1]; exact At.hit
  have c43 := checkS' (s := s1) (base := base) (sent := k) (clock := clock) (h.sub datQ I1.sub) (by omega)
  rw [if_pos hm] at c43
  have c75 := ownQ I1.sub h (by omega) hl

  (repeat' (first | (apply Ab.K.ev; exact ev_) | (apply Ab.K.aops; first | (apply Xg.s; constructor) | apply Ab.S.guardG) | (apply Ab.K.aop; first | (first | (apply Ab.O.boxA N; (case hx => exact ev_); (case hid => exact frees_)) | (apply Ab.O.allocA (N + 1); (case hid => exact frees_); (case hp => rfl)) | (apply Ab.O.callFE; (case ha => exact evs_); (case hc => exact c75))) | (apply Og.s; constructor)) | (apply Ab.K.gk; first | (apply Xg.s; constructor) | (apply Ab.gY; case hw => assumption) | (apply Ab.gNT; case hw => assumption) | (apply Ab.gNF; case hw => assumption) | ((first | apply Ab.gD | apply Ab.gDN); all_goals (intro _ _; (first | contradiction | (exfalso; omega) | skip)))) | (apply Ab.K.aopsD; first | (apply Ab.D.q0t; (case hw => rfl); (case hot => rfl)) | (apply Ab.D.w1t; (case hw => rfl); (case hot => rfl)) | (apply Ab.D.q0; (case hw => rfl); intro _ _) | (apply Ab.D.w1n; (case hw => rfl); intro _ _) | (apply Ab.D.w2n; (case hw => rfl); intro _ _) | (apply Xg.s; constructor) | fail | apply Ab.D.guardG) | (apply Ab.K.aopsP; first | apply Ab.Pd.nil | (apply Ab.Pd.q; (case hi => rfl)) | (apply Ab.Pd.z; (case hi => rfl)) | (apply Ab.Pd.zU; (case hi => rfl); (case hd => rfl); (case hb => (exact ev_; done))) | (apply Ab.Pd.zG; (case hi => rfl); (case hd => rfl)) | (apply Ab.Pd.st; (case hi => rfl)) | (apply Ab.Pd.qU; (case hi => rfl); (case hd => rfl); (case hb => (exact ev_; done))) | (apply Ab.Pd.qG; (case hi => rfl); (case hd => rfl)) | (apply Ab.Pd.stU; (case hi => rfl); (case hd => rfl); (case hb => (exact ev_; done))) | (apply Ab.Pd.stG; (case hi => rfl); (case hd => rfl))) | (apply Ab.Pd.qs; intro _ _) | (apply Ab.Pd.nxE; (case hE => rfl)) | (apply Ab.Pd.nxR; (case hr => (repeat' (first | exact Ab.Sub.del _ _ | assumption | (apply Ab.Sub.setI; (case hn => simp)) | (apply Ab.Sub.setF; (case hn => exact free_)) | exact (Ab.Sub.del _ _).trans (by assumption))))) | exact ⟨rfl, rfl⟩ | (apply Ab.K.awp; first | (apply AWp.schedS (id := 11) [(0, 1), (1, 1), (2, 2), (3, 1), (4, 0), (5, 0), (6, 0), (7, 0)] [5, 6, 7] [[], [], [], [2], [1, 2, 3], [0, 1, 2, 3, 4], [0, 1, 2, 3, 4, 5], [0, 1, 2, 3, 4, 5, 6]] [] (by kernel_rfl) (by kernel_rfl) (by kernel_rfl) rfl) | (apply Xg.s; constructor)) | (apply Ab.K.at_; exact at_) | (apply Ab.K.acall; first | assumption | (rw [← hs1]; exact c43)) | (apply Ab.Rg.mk; omega) | (apply Ab.Lt.mk; first | decide | (simp; done) | (simp; omega) | fail) | (apply Ab.Get.mk; first | rfl | fail) | (apply Ab.Nm.mk; first | exact nrm_) | (apply Xg.s; constructor) | (apply Ab.asm; assumption) | rfl | infer_instance | decide))
  rintro u s3 ⟨b3, I4, hu⟩
  clear c43 c75 hs1
  have I5 := I1.trans I4
  obtain ⟨M3, hM3, T3⟩ := I4.fin _ T1
  have aN3 := I4.kp.at_ aN
  have aN13 := I4.kp.at_ aN1
  have PN3 := PN.call I4
  have PN13 := PN1.call I4
  obtain ⟨B, c2, rfl, _⟩ := hu.isl
  clear aN aN1 PN PN1 T1 I1
  by_cases hk : (k : Int) = 0
  · have hy : tickS ⟨base, k, q, clock⟩ = (⟨base, k, q, clock⟩, []) := if_pos hk
    rw [hy]
    (repeat' (first | (apply Ab.K.ev; exact ev_) | (apply Ab.K.aops; first | (apply Xg.s; constructor) | apply Ab.S.guardG) | (apply Ab.K.aop; first | (apply Og.s; constructor)) | (apply Ab.K.gk; first | (apply Xg.s; constructor) | (apply Ab.gY; case hw => assumption) | (apply Ab.gNT; case hw => assumption) | (apply Ab.gNF; case hw => assumption) | ((first | apply Ab.gD | apply Ab.gDN); all_goals (intro _ _; (first | contradiction | (exfalso; omega) | skip)))) | (apply Ab.K.aopsD; first | (apply Ab.D.q0t; (case hw => rfl); (case hot => rfl)) | (apply Ab.D.w1t; (case hw => rfl); (case hot => rfl)) | (apply Ab.D.q0; (case hw => rfl); intro _ _) | (apply Ab.D.w1n; (case hw => rfl); intro _ _) | (apply Ab.D.w2n; (case hw => rfl); intro _ _) | (apply Xg.s; constructor) | fail | apply Ab.D.guardG) | (apply Ab.K.aopsP; first | apply Ab.Pd.nil | (apply Ab.Pd.q; (case hi => rfl)) | (apply Ab.Pd.z; (case hi => rfl)) | (apply Ab.Pd.zU; (case hi => rfl); (case hd => rfl); (case hb => (exact ev_; done))) | (apply Ab.Pd.zG; (case hi => rfl); (case hd => rfl)) | (apply Ab.Pd.st; (case hi => rfl)) | (apply Ab.Pd.qU; (case hi => rfl); (case hd => rfl); (case hb => (exact ev_; done))) | (apply Ab.Pd.qG; (case hi => rfl); (case hd => rfl)) | (apply Ab.Pd.stU; (case hi => rfl); (case hd => rfl); (case hb => (exact ev_; done))) | (apply Ab.Pd.stG; (case hi => rfl); (case hd => rfl))) | (apply Ab.Pd.qs; intro _ _) | (apply Ab.Pd.nxE; (case hE => rfl)) | (apply Ab.Pd.nxR; (case hr => (repeat' (first | exact Ab.Sub.del _ _ | assumption | (apply Ab.Sub.setI; (case hn => simp)) | (apply Ab.Sub.setF; (case hn => exact free_)) | exact (Ab.Sub.del _ _).trans (by assumption))))) | exact ⟨rfl, rfl⟩ | (apply Ab.K.awp; first | (apply AWp.schedS (id := 11) [(0, 1), (1, 1), (2, 2), (3, 1), (4, 0), (5, 0), (6, 0), (7, 0)] [5, 6, 7] [[], [], [], [2], [1, 2, 3], [0, 1, 2, 3, 4], [0, 1, 2, 3, 4, 5], [0, 1, 2, 3, 4, 5, 6]] [] (by kernel_rfl) (by kernel_rfl) (by kernel_rfl) rfl) | (apply Xg.s; constructor)) | (apply Ab.K.at_; exact at_) | (apply Ab.K.acall; first | assumption | fail) | (apply Ab.Rg.mk; omega) | (apply Ab.Lt.mk; first | decide | (simp; done) | (simp; omega) | fail) | (apply Ab.Get.mk; first | rfl | fail) | (apply Ab.Nm.mk; first | exact nrm_) | (apply Xg.s; constructor) | (apply Ab.asm; assumption) | rfl | infer_instance | decide))
    all_goals apply RetE.puR (b := b3)
    case I => (repeat' (first | assumption | (apply Ab.Inv.boxP; (case p => (repeat' (first | assumption | apply Ab.Prv.set))))))
    case he => exact evr_
    case hg => rfl
    · exact (R3.mk ⟨_, rfl, hu⟩ .nil).1
    · exact (R3.mk (y := ⟨base, k, q, clock⟩) ⟨_, rfl, hu⟩ .nil).2
  by_cases hc : clock - 1 > 0
  · have hy : tickS ⟨base, k, q, clock⟩ = (⟨base, k, q, clock - 1⟩, []) := by
      show (if (k : Int) = 0 then _ else if clock - 1 > 0 then _ else _) = _
      rw [if_neg hk, if_pos hc]
    rw [hy]
    (repeat' (first | (apply Ab.K.ev; exact ev_) | (apply Ab.K.aops; first | (apply Xg.s; constructor) | apply Ab.S.guardG) | (apply Ab.K.aop; first | (apply Og.s; constructor)) | (apply Ab.K.gk; first | (apply Xg.s; constructor) | (apply Ab.gY; case hw => assumption) | (apply Ab.gNT; case hw => assumption) | (apply Ab.gNF; case hw => assumption) | ((first | apply Ab.gD | apply Ab.gDN); all_goals (intro _ _; (first | contradiction | (exfalso; omega) | skip)))) | (apply Ab.K.aopsD; first | (apply Ab.D.q0t; (case hw => rfl); (case hot => rfl)) | (apply Ab.D.w1t; (case hw => rfl); (case hot => rfl)) | (apply Ab.D.q0; (case hw => rfl); intro _ _) | (apply Ab.D.w1n; (case hw => rfl); intro _ _) | (apply Ab.D.w2n; (case hw => rfl); intro _ _) | (apply Xg.s; constructor) | fail | apply Ab.D.guardG) | (apply Ab.K.aopsP; first | apply Ab.Pd.nil | (apply Ab.Pd.q; (case hi => rfl)) | (apply Ab.Pd.z; (case hi => rfl)) | (apply Ab.Pd.zU; (case hi => rfl); (case hd => rfl); (case hb => (exact ev_; done))) | (apply Ab.Pd.zG; (case hi => rfl); (case hd => rfl)) | (apply Ab.Pd.st; (case hi => rfl)) | (apply Ab.Pd.qU; (case hi => rfl); (case hd => rfl); (case hb => (exact ev_; done))) | (apply Ab.Pd.qG; (case hi => rfl); (case hd => rfl)) | (apply Ab.Pd.stU; (case hi => rfl); (case hd => rfl); (case hb => (exact ev_; done))) | (apply Ab.Pd.stG; (case hi => rfl); (case hd => rfl))) | (apply Ab.Pd.qs; intro _ _) | (apply Ab.Pd.nxE; (case hE => rfl)) | (apply Ab.Pd.nxR; (case hr => (repeat' (first | exact Ab.Sub.del _ _ | assumption | (apply Ab.Sub.setI; (case hn => simp)) | (apply Ab.Sub.setF; (case hn => exact free_)) | exact (Ab.Sub.del _ _).trans (by assumption))))) | exact ⟨rfl, rfl⟩ | (apply Ab.K.awp; first | (apply AWp.schedS (id := 11) [(0, 1), (1, 1), (2, 2), (3, 1), (4, 0), (5, 0), (6, 0), (7, 0)] [5, 6, 7] [[], [], [], [2], [1, 2, 3], [0, 1, 2, 3, 4], [0, 1, 2, 3, 4, 5], [0, 1, 2, 3, 4, 5, 6]] [] (by kernel_rfl) (by kernel_rfl) (by kernel_rfl) rfl) | (apply Xg.s; constructor)) | (apply Ab.K.at_; exact at_) | (apply Ab.K.acall; first | assumption | fail) | (apply Ab.Rg.mk; omega) | (apply Ab.Lt.mk; first | decide | (simp; done) | (simp; omega) | fail) | (apply Ab.Get.mk; first | rfl | fail) | (apply Ab.Nm.mk; first | exact nrm_) | (apply Xg.s; constructor) | (apply Ab.asm; assumption) | rfl | infer_instance | decide))
    all_goals apply RetE.puR (b := b3)
    case I => (repeat' (first | assumption | (apply Ab.Inv.boxP; (case p => (repeat' (first | assumption | apply Ab.Prv.set))))))
    case he => exact evr_
    case hg => rfl
    · exact (R3.mk ⟨_, rfl, hu⟩ .nil).1
    · exact (R3.mk (y := ⟨base, k, q, clock - 1⟩) ⟨_, rfl, hu⟩ .nil).2
  · have hy : tickS ⟨base, k, q, clock⟩ = (⟨base, k, q, 4⟩, ((nmb base q).drop 0).take (k - 0)) := by
      show (if (k : Int) = 0 then _ else if clock - 1 > 0 then _ else (_, (nmb base q).take (k : Int).toNat)) = _
      rw [if_neg hk, if_neg hc, Int.toNat_natCast]; rfl
    rw [hy]
    obtain ⟨s4, hs4⟩ : ∃ s4 : AHeap, s4 = ((s3.set N (.cells true 1 [.int .i64 base, .int .i64 k, .slice B q.length c2, .int .i64 clock])).set N (.cells true 1 [.int .i64 base, .int .i64 k, .slice B q.length c2, .int .i64 (clock - 1)])).set N (.cells true 1 [.int .i64 base, .int .i64 k, .slice B q.length c2, .int .i64 4]) := ⟨_, rfl⟩
    have I6 : Inv s b s4 b3 := by rw [hs4]; (repeat' (first | assumption | (apply Ab.Inv.boxP; (case p => (repeat' (first | assumption | apply Ab.Prv.set))))))
    have P6 : Prv s s4 b3 N := by rw [hs4]; (repeat' (first | assumption | apply Ab.Prv.set))
    have P61 : Prv s s4 b3 (N + 1) := by rw [hs4]; (repeat' (first | assumption | apply Ab.Prv.set))
    have a6 : At s4 N (.cells true 1 [.int .i64 base, .int .i64 k, .slice B q.length c2, .int .i64 4]) := by rw [hs4]; exact At.hit
    have a61 : At s4 (N + 1) (.cells true 1 [.int .i64 0, .int .i64 0, .slice none 0 0, .int .i64 0]) := by rw [hs4]; exact at_
    have c76 := numbered76 (f := 0) (t := k) (sent := k) (clock := 4) (base := base) I6.sub hu (by omega) (by omega) (by omega) hl hO.1
    (repeat' (first | (apply Ab.K.ev; exact ev_) | (apply Ab.K.aops; first | (apply Xg.s; constructor) | apply Ab.S.guardG) | (apply Ab.K.aop; first | (apply Ab.O.callFE; (case ha => exact evs_); (case hc => rw [← hs4]; exact c76)) | (apply Og.s; constructor)) | (apply Ab.K.gk; first | (apply Xg.s; constructor) | (apply Ab.gY; case hw => assumption) | (apply Ab.gNT; case hw => assumption) | (apply Ab.gNF; case hw => assumption) | ((first | apply Ab.gD | apply Ab.gDN); all_goals (intro _ _; (first | contradiction | (exfalso; omega) | skip)))) | (apply Ab.K.aopsD; first | (apply Ab.D.q0t; (case hw => rfl); (case hot => rfl)) | (apply Ab.D.w1t; (case hw => rfl); (case hot => rfl)) | (apply Ab.D.q0; (case hw => rfl); intro _ _) | (apply Ab.D.w1n; (case hw => rfl); intro _ _) | (apply Ab.D.w2n; (case hw => rfl); intro _ _) | (apply Xg.s; constructor) | fail | apply Ab.D.guardG) | (apply Ab.K.aopsP; first | apply Ab.Pd.nil | (apply Ab.Pd.q; (case hi => rfl)) | (apply Ab.Pd.z; (case hi => rfl)) | (apply Ab.Pd.zU; (case hi => rfl); (case hd => rfl); (case hb => (exact ev_; done))) | (apply Ab.Pd.zG; (case hi => rfl); (case hd => rfl)) | (apply Ab.Pd.st; (case hi => rfl)) | (apply Ab.Pd.qU; (case hi => rfl); (case hd => rfl); (case hb => (exact ev_; done))) | (apply Ab.Pd.qG; (case hi => rfl); (case hd => rfl)) | (apply Ab.Pd.stU; (case hi => rfl); (case hd => rfl); (case hb => (exact ev_; done))) | (apply Ab.Pd.stG; (case hi => rfl); (case hd => rfl))) | (apply Ab.Pd.qs; intro _ _) | (apply Ab.Pd.nxE; (case hE => rfl)) | (apply Ab.Pd.nxR; (case hr => (repeat' (first | exact Ab.Sub.del _ _ | assumption | (apply Ab.Sub.setI; (case hn => simp)) | (apply Ab.Sub.setF; (case hn => exact free_)) | exact (Ab.Sub.del _ _).trans (by assumption))))) | exact ⟨rfl, rfl⟩ | (apply Ab.K.awp; first | (apply AWp.schedS (id := 11) [(0, 1), (1, 1), (2, 2), (3, 1), (4, 0), (5, 0), (6, 0), (7, 0)] [5, 6, 7] [[], [], [], [2], [1, 2, 3], [0, 1, 2, 3, 4], [0, 1, 2, 3, 4, 5], [0, 1, 2, 3, 4, 5, 6]] [] (by kernel_rfl) (by kernel_rfl) (by kernel_rfl) rfl) | (apply Xg.s; constructor)) | (apply Ab.K.at_; exact at_) | (apply Ab.K.acall; first | assumption | fail) | (apply Ab.Rg.mk; omega) | (apply Ab.Lt.mk; first | decide | (simp; done) | (simp; omega) | fail) | (apply Ab.Get.mk; first | rfl | fail) | (apply Ab.Nm.mk; first | exact nrm_) | (apply Xg.s; constructor) | (apply Ab.asm; assumption) | rfl | infer_instance | decide))
    rintro w s5 ⟨b5, I7, hw⟩
    clear c76
    rw [← hs4]
    refine Pd.nxR ((Sub.del _ _).trans I7.kp) ?_
    have I8 := I6.trans I7
    have P8 := P6.call I7
    have P81 := P61.call I7
    have a8 := I7.kp.at_ a6
    have a81 := I7.kp.at_ a61
    have hu8 := hu.sub datQ I7.old
    obtain ⟨D, c3, rfl, _⟩ := hw.isl
    (repeat' (first | (apply Ab.K.ev; exact ev_) | (apply Ab.K.aops; first | (apply Xg.s; constructor) | apply Ab.S.guardG) | (apply Ab.K.aop; first | (apply Og.s; constructor)) | (apply Ab.K.gk; first | (apply Xg.s; constructor) | (apply Ab.gY; case hw => assumption) | (apply Ab.gNT; case hw => assumption) | (apply Ab.gNF; case hw => assumption) | ((first | apply Ab.gD | apply Ab.gDN); all_goals (intro _ _; (first | contradiction | (exfalso; omega) | skip)))) | (apply Ab.K.aopsD; first | (apply Ab.D.q0t; (case hw => rfl); (case hot => rfl)) | (apply Ab.D.w1t; (case hw => rfl); (case hot => rfl)) | (apply Ab.D.q0; (case hw => rfl); intro _ _) | (apply Ab.D.w1n; (case hw => rfl); intro _ _) | (apply Ab.D.w2n; (case hw => rfl); intro _ _) | (apply Xg.s; constructor) | fail | apply Ab.D.guardG) | (apply Ab.K.aopsP; first | apply Ab.Pd.nil | (apply Ab.Pd.q; (case hi => rfl)) | (apply Ab.Pd.z; (case hi => rfl)) | (apply Ab.Pd.zU; (case hi => rfl); (case hd => rfl); (case hb => (exact ev_; done))) | (apply Ab.Pd.zG; (case hi => rfl); (case hd => rfl)) | (apply Ab.Pd.st; (case hi => rfl)) | (apply Ab.Pd.qU; (case hi => rfl); (case hd => rfl); (case hb => (exact ev_; done))) | (apply Ab.Pd.qG; (case hi => rfl); (case hd => rfl)) | (apply Ab.Pd.stU; (case hi => rfl); (case hd => rfl); (case hb => (exact ev_; done))) | (apply Ab.Pd.stG; (case hi => rfl); (case hd => rfl))) | (apply Ab.Pd.qs; intro _ _) | (apply Ab.Pd.nxE; (case hE => rfl)) | (apply Ab.Pd.nxR; (case hr => (repeat' (first | exact Ab.Sub.del _ _ | assumption | (apply Ab.Sub.setI; (case hn => simp)) | (apply Ab.Sub.setF; (case hn => exact free_)) | exact (Ab.Sub.del _ _).trans (by assumption))))) | exact ⟨rfl, rfl⟩ | (apply Ab.K.awp; first | (apply AWp.schedS (id := 11) [(0, 1), (1, 1), (2, 2), (3, 1), (4, 0), (5, 0), (6, 0), (7, 0)] [5, 6, 7] [[], [], [], [2], [1, 2, 3], [0, 1, 2, 3, 4], [0, 1, 2, 3, 4, 5], [0, 1, 2, 3, 4, 5, 6]] [] (by kernel_rfl) (by kernel_rfl) (by kernel_rfl) rfl) | (apply Xg.s; constructor)) | (apply Ab.K.at_; exact at_) | (apply Ab.K.acall; first | assumption | fail) | (apply Ab.Rg.mk; omega) | (apply Ab.Lt.mk; first | decide | (simp; done) | (simp; omega) | fail) | (apply Ab.Get.mk; first | rfl | fail) | (apply Ab.Nm.mk; first | exact nrm_) | (apply Xg.s; constructor) | (apply Ab.asm; assumption) | rfl | infer_instance | decide))
    all_goals apply RetE.puR (b := b5)
    case I => (repeat' (first | assumption | (apply Ab.Inv.boxP; (case p => (repeat' (first | assumption | apply Ab.Prv.set))))))
    case he => exact evr_
    case hg => rfl
    · exact (R3.mk ⟨_, rfl, hu8⟩ hw).1
    · exact (R3.mk (y := ⟨base, k, q, 4⟩) ⟨_, rfl, hu8⟩ hw).2
end Go.Proofs.Ytoiplbackllgfaa

/- lines: senders: a payload more, and acks, by the program. -/
namespace Go.Proofs.Ytoiplbackllgfaa
set_option linter.unusedVariables false
set_option linter.unusedSimpArgs false
set_option linter.unusedSectionVars false
open Go.RowKit Ab HP
attribute [local irreducible] AOps AOpsD AOpsP QStep NX AOp AWp put nargs AHeap.set At Free ACall ACallE thenQ blockQ roundQ RetQ RetE Src Gr
def pushC (x : Sd) (p : List Int) (lim : Int) : Int := if p.length > 16384 then 3 else if x.q.length = 256 then 2 else if x.base + x.q.length ≥ lim then 10 else 0
def pushS (x : Sd) (p : List Int) (lim : Int) : Sd := if pushC x p lim = 0 then ⟨x.base, x.sent, x.q ++ [p], x.clock⟩ else ⟨0, 0, [], 0⟩
def ackS (x : Sd) (n : Int) : Sd := if n ≤ x.base ∨ n - x.base > x.sent then x else ⟨n, x.sent - (n - x.base), x.q.drop (n - x.base).toNat, if x.sent - (n - x.base) = 0 then 0 else 4⟩
/-- A sender and an error. -/
def R2 (y : Sd) (e : Int) (r : Value) (b : AHeap) : Prop := ∃ c, r = .tuple #[.agg c.toArray, .int .i64 e] ∧ RS b c y
theorem R2.mk {y : Sd} {e : Int} {b : AHeap} {c : List Value} (h : RS b c y) : R2 y e (resV [.agg c.toArray, .int .i64 e]) b ∧ nmR (fun i => (b i).isSome = true) (resV [.agg c.toArray, .int .i64 e]) := by
  refine ⟨⟨c, rfl, h⟩, ?_⟩
  refine nmT (l := [_, _]) fun x hx => ?_
  simp only [List.mem_cons, List.not_mem_nil, or_false] at hx
  rcases hx with rfl | rfl
  · exact nmG (datS.nm _ _ _ h)
  · trivial
theorem RS.zero (b : AHeap) : RS b [.int .i64 0, .int .i64 0, .slice none 0 0, .int .i64 0] ⟨0, 0, [], 0⟩ := ⟨_, rfl, .nil⟩
set_option maxHeartbeats 4000000 in
theorem push52' {s b : AHeap} {base sent clock lim : Int} {v w : Value} {q : List (List Int)} {p : List Int} (hb : Sub b s) (h : Qt b v q) (hp : Bt b w p) (hpl : p.length ≤ 1000000000) (hm : Sd.May ⟨base, sent, q, clock⟩) (hli : 1 ≤ lim ∧ lim ≤ 2147483647) :
    ACallE Try.prog 52 [.agg #[.int .i64 base, .int .i64 sent, v, .int .i64 clock], w, .int .i64 lim] s (Pu s b (R2 (pushS ⟨base, sent, q, clock⟩ p lim) (pushC ⟨base, sent, q, clock⟩ p lim))) := by
  have hq : q.length ≤ 256 := hm.1.2.1
  have hl : ∀ x ∈ q, x.length ≤ 1000000000 := fun x hx => Nat.le_trans (big_get hm.2 x hx) (by omega)
  have hO := hm.1
  simp only [Sd.Ok] at hO
  refine ACallE.make Try.func52 rfl (by kernel_rfl) (by decide) rfl (fun N hN0 => ?_)
  have hT : Top N s := hN0
  obtain ⟨A, cap, rfl, hcap⟩ := h.isl
  obtain ⟨A2, cap2, rfl, hcap2⟩ := hp.isl
  obtain ⟨s1, hs1⟩ : ∃ s1 : AHeap, s1 = (s.set N (.cells true 1 [.int .i64 base, .int .i64 sent, .slice A q.length cap, .int .i64 clock])).set (N + 1) (.cells true 1 [.int .i64 0, .int .i64 0, .slice none 0 0, .int .i64 0]) := ⟨_, rfl⟩
  have I1 : Inv s b s1 b := by rw [hs1]; exact ((Inv.refl hb).boxT hT (Nat.le_refl _)).boxT hT.new (Nat.le_refl _)
  have PN : Prv s s1 b N := by rw [hs1]; exact (Prv.mk' (Inv.refl hb) (hT.none (Nat.le_refl _))).set
  have PN1 : Prv s s1 b (N + 1) := by rw [hs1]; exact Prv.mk' ((Inv.refl hb).boxT hT (Nat.le_refl _)) (hT.new.none (Nat.le_refl _))
  have T1 : Top (N + 2) s1 := by rw [hs1]; exact hT.new.new
  have aN : At s1 N (.cells true 1 [.int .i64 base, .int .i64 sent, .slice A q.length cap, .int .i64 clock]) := by rw [hs1]; exact at_
  have aN1 : At s1 (N + 1) (.cells true 1 [.int .i64 0, .int .i64 0, .slice none 0 0, .int .i64 0]) := by rw [hs1]; exact At.hit
  have c43 := checkS' (s := s1) (base := base) (sent := sent) (clock := clock) (h.sub datQ I1.sub) (by omega)
  rw [if_pos hm] at c43
  have c75 := ownG I1.sub h (by omega) hl

  by_cases h1 : (p.length : Int) > 16384
  case pos =>
    have hc : pushC ⟨base, sent, q, clock⟩ p lim = 3 := by unfold pushC; rw [if_pos (by omega)]
    rw [show pushS ⟨base, sent, q, clock⟩ p lim = ⟨0, 0, [], 0⟩ by unfold pushS; rw [hc]; rfl, hc]
    (repeat' (first | (apply Ab.K.ev; exact ev_) | (apply Ab.K.aops; first | (apply Xg.s; constructor) | apply Ab.S.guardG) | (apply Ab.K.aop; first | (first | (apply Ab.O.boxA N; (case hx => exact ev_); (case hid => exact frees_)) | (apply Ab.O.allocA (N + 1); (case hid => exact frees_); (case hp => rfl)) | (apply Ab.O.callFE; (case ha => exact evs_); (case hc => exact c75))) | (apply Og.s; constructor)) | (apply Ab.K.gk; first | (apply Xg.s; constructor) | (apply Ab.gY; case hw => assumption) | (apply Ab.gNT; case hw => assumption) | (apply Ab.gNF; case hw => assumption) | ((first | apply Ab.gD | apply Ab.gDN); all_goals (intro _ _; (first | contradiction | (exfalso; omega) | skip)))) | (apply Ab.K.awp; first | (apply Xg.s; constructor)) | (apply Ab.K.at_; exact at_) | (apply Ab.K.acall; first | assumption | (rw [← hs1]; exact c43)) | (apply Ab.Rg.mk; omega) | (apply Ab.Lt.mk; first | decide | (simp; done) | (simp; omega) | fail) | (apply Ab.Get.mk; first | rfl | fail) | (apply Ab.Nm.mk; first | exact nrm_) | (apply Xg.s; constructor) | (apply Ab.asm; assumption) | rfl | infer_instance | decide))
    all_goals apply RetE.puR (b := b)
    case I => (repeat' (first | assumption | (apply Ab.Inv.boxP; (case p => (repeat' (first | assumption | apply Ab.Prv.set))))))
    case he => exact evr_
    case hg => rfl
    · exact (R2.mk (RS.zero b)).1
    · exact (R2.mk (RS.zero b)).2
  by_cases h2 : (q.length : Int) = 256
  case pos =>
    have hc : pushC ⟨base, sent, q, clock⟩ p lim = 2 := by unfold pushC; rw [if_neg (by omega), if_pos (show q.length = 256 by omega)]
    rw [show pushS ⟨base, sent, q, clock⟩ p lim = ⟨0, 0, [], 0⟩ by unfold pushS; rw [hc]; rfl, hc]
    (repeat' (first | (apply Ab.K.ev; exact ev_) | (apply Ab.K.aops; first | (apply Xg.s; constructor) | apply Ab.S.guardG) | (apply Ab.K.aop; first | (first | (apply Ab.O.boxA N; (case hx => exact ev_); (case hid => exact frees_)) | (apply Ab.O.allocA (N + 1); (case hid => exact frees_); (case hp => rfl)) | (apply Ab.O.callFE; (case ha => exact evs_); (case hc => exact c75))) | (apply Og.s; constructor)) | (apply Ab.K.gk; first | (apply Xg.s; constructor) | (apply Ab.gY; case hw => assumption) | (apply Ab.gNT; case hw => assumption) | (apply Ab.gNF; case hw => assumption) | ((first | apply Ab.gD | apply Ab.gDN); all_goals (intro _ _; (first | contradiction | (exfalso; omega) | skip)))) | (apply Ab.K.awp; first | (apply Xg.s; constructor)) | (apply Ab.K.at_; exact at_) | (apply Ab.K.acall; first | assumption | (rw [← hs1]; exact c43)) | (apply Ab.Rg.mk; omega) | (apply Ab.Lt.mk; first | decide | (simp; done) | (simp; omega) | fail) | (apply Ab.Get.mk; first | rfl | fail) | (apply Ab.Nm.mk; first | exact nrm_) | (apply Xg.s; constructor) | (apply Ab.asm; assumption) | rfl | infer_instance | decide))
    all_goals apply RetE.puR (b := b)
    case I => (repeat' (first | assumption | (apply Ab.Inv.boxP; (case p => (repeat' (first | assumption | apply Ab.Prv.set))))))
    case he => exact evr_
    case hg => rfl
    · exact (R2.mk (RS.zero b)).1
    · exact (R2.mk (RS.zero b)).2
  by_cases h3 : base + q.length ≥ lim
  case pos =>
    have hc : pushC ⟨base, sent, q, clock⟩ p lim = 10 := by unfold pushC; rw [if_neg (by omega), if_neg (show ¬ q.length = 256 by omega), if_pos h3]
    rw [show pushS ⟨base, sent, q, clock⟩ p lim = ⟨0, 0, [], 0⟩ by unfold pushS; rw [hc]; rfl, hc]
    (repeat' (first | (apply Ab.K.ev; exact ev_) | (apply Ab.K.aops; first | (apply Xg.s; constructor) | apply Ab.S.guardG) | (apply Ab.K.aop; first | (first | (apply Ab.O.boxA N; (case hx => exact ev_); (case hid => exact frees_)) | (apply Ab.O.allocA (N + 1); (case hid => exact frees_); (case hp => rfl)) | (apply Ab.O.callFE; (case ha => exact evs_); (case hc => exact c75))) | (apply Og.s; constructor)) | (apply Ab.K.gk; first | (apply Xg.s; constructor) | (apply Ab.gY; case hw => assumption) | (apply Ab.gNT; case hw => assumption) | (apply Ab.gNF; case hw => assumption) | ((first | apply Ab.gD | apply Ab.gDN); all_goals (intro _ _; (first | contradiction | (exfalso; omega) | skip)))) | (apply Ab.K.awp; first | (apply Xg.s; constructor)) | (apply Ab.K.at_; exact at_) | (apply Ab.K.acall; first | assumption | (rw [← hs1]; exact c43)) | (apply Ab.Rg.mk; omega) | (apply Ab.Lt.mk; first | decide | (simp; done) | (simp; omega) | fail) | (apply Ab.Get.mk; first | rfl | fail) | (apply Ab.Nm.mk; first | exact nrm_) | (apply Xg.s; constructor) | (apply Ab.asm; assumption) | rfl | infer_instance | decide))
    all_goals apply RetE.puR (b := b)
    case I => (repeat' (first | assumption | (apply Ab.Inv.boxP; (case p => (repeat' (first | assumption | apply Ab.Prv.set))))))
    case he => exact evr_
    case hg => rfl
    · exact (R2.mk (RS.zero b)).1
    · exact (R2.mk (RS.zero b)).2
  have hc : pushC ⟨base, sent, q, clock⟩ p lim = 0 := by unfold pushC; rw [if_neg (by omega), if_neg (show ¬ q.length = 256 by omega), if_neg h3]
  rw [show pushS ⟨base, sent, q, clock⟩ p lim = ⟨base, sent, q ++ [p], clock⟩ by unfold pushS; rw [if_pos hc], hc]
  (repeat' (first | (apply Ab.K.ev; exact ev_) | (apply Ab.K.aops; first | (apply Xg.s; constructor) | apply Ab.S.guardG) | (apply Ab.K.aop; first | (first | (apply Ab.O.boxA N; (case hx => exact ev_); (case hid => exact frees_)) | (apply Ab.O.allocA (N + 1); (case hid => exact frees_); (case hp => rfl)) | (apply Ab.O.callFE; (case ha => exact evs_); (case hc => exact c75))) | (apply Og.s; constructor)) | (apply Ab.K.gk; first | (apply Xg.s; constructor) | (apply Ab.gY; case hw => assumption) | (apply Ab.gNT; case hw => assumption) | (apply Ab.gNF; case hw => assumption) | ((first | apply Ab.gD | apply Ab.gDN); all_goals (intro _ _; (first | contradiction | (exfalso; omega) | skip)))) | (apply Ab.K.awp; first | (apply Xg.s; constructor)) | (apply Ab.K.at_; exact at_) | (apply Ab.K.acall; first | assumption | (rw [← hs1]; exact c43)) | (apply Ab.Rg.mk; omega) | (apply Ab.Lt.mk; first | decide | (simp; done) | (simp; omega) | fail) | (apply Ab.Get.mk; first | rfl | fail) | (apply Ab.Nm.mk; first | exact nrm_) | (apply Xg.s; constructor) | (apply Ab.asm; assumption) | rfl | infer_instance | decide))
  rintro u s3 ⟨b3, on, xs, I4, G, C, hP⟩
  clear c43 c75 hs1
  have I5 := I1.trans I4
  obtain ⟨M3, hM3, T3⟩ := I4.fin _ T1
  have aN3 := I4.kp.at_ aN
  have aN13 := I4.kp.at_ aN1
  have PN3 := PN.call I4
  have PN13 := PN1.call I4
  obtain ⟨B, rfl⟩ := G.isl
  have hNo : ∀ o, on = some o → o ≠ N ∧ o ≠ N + 1 := fun o e => ⟨fun e' => (by subst e'; have := (hP _ e).z; rw [aN.eq] at this; cases this), fun e' => (by subst e'; have := (hP _ e).z; rw [aN1.eq] at this; cases this)⟩
  clear aN aN1 PN PN1 T1
  have c67 := cloneB I4.sub (hp.bt I4.old) hpl
  (repeat' (first | (apply Ab.K.ev; exact ev_) | (apply Ab.K.aops; first | (apply Xg.s; constructor) | apply Ab.S.guardG) | (apply Ab.K.aop; first | (apply Ab.O.callFE; (case ha => exact evs_); (case hc => exact c67)) | (apply Og.s; constructor)) | (apply Ab.K.gk; first | (apply Xg.s; constructor) | (apply Ab.gY; case hw => assumption) | (apply Ab.gNT; case hw => assumption) | (apply Ab.gNF; case hw => assumption) | ((first | apply Ab.gD | apply Ab.gDN); all_goals (intro _ _; (first | contradiction | (exfalso; omega) | skip)))) | (apply Ab.K.awp; first | (apply Xg.s; constructor)) | (apply Ab.K.at_; exact at_) | (apply Ab.K.acall; first | assumption | fail) | (apply Ab.Rg.mk; omega) | (apply Ab.Lt.mk; first | decide | (simp; done) | (simp; omega) | fail) | (apply Ab.Get.mk; first | rfl | fail) | (apply Ab.Nm.mk; first | exact nrm_) | (apply Xg.s; constructor) | (apply Ab.asm; assumption) | rfl | infer_instance | decide))
  rintro u2 s5 ⟨b5, I7, hu⟩
  clear c67
  have I8 := I5.trans I7
  obtain ⟨M5, hM5, T5⟩ := I7.fin _ T3
  have aN5 := I7.kp.at_ aN3
  have aN15 := I7.kp.at_ aN13
  have PN5 := PN3.call I7
  have PN15 := PN13.call I7
  obtain ⟨B2, c3, rfl, _⟩ := hu.isl
  have G5 := G.kp I7.kp
  have hlt := G5.lt T5
  (repeat' (first | (apply Ab.K.ev; exact ev_) | (apply Ab.K.aops; first | (apply Xg.s; constructor) | apply Ab.S.guardG) | (apply Ab.K.aop; first | (apply Ab.O.build1 (M5); (case hx => exact ev_); (case hv => exact ⟨rfl, rfl⟩); (case hz => exact ⟨rfl, rfl⟩); (case hid => exact free_)) | (apply Og.s; constructor)) | (apply Ab.K.gk; first | (apply Xg.s; constructor) | (apply Ab.gY; case hw => assumption) | (apply Ab.gNT; case hw => assumption) | (apply Ab.gNF; case hw => assumption) | ((first | apply Ab.gD | apply Ab.gDN); all_goals (intro _ _; (first | contradiction | (exfalso; omega) | skip)))) | (apply Ab.K.awp; first | (apply Xg.s; constructor)) | (apply Ab.K.at_; exact at_) | (apply Ab.K.acall; first | assumption | fail) | (apply Ab.Rg.mk; omega) | (apply Ab.Lt.mk; first | decide | (simp; done) | (simp; omega) | fail) | (apply Ab.Get.mk; first | rfl | fail) | (apply Ab.Nm.mk; first | exact nrm_) | (apply Xg.s; constructor) | (apply Ab.asm; assumption) | rfl | infer_instance | decide))
  have G6 := G5.set (id := M5) (b := .cells true 1 [.slice B2 p.length c3]) (fun q e => by have := hlt q e; omega)
  clear G G5

  (apply Ab.O.appendL (M5 + 1); (case hx => exact ev_); (case hL => exact Ab.Gr.lat (by assumption)); (case hy => exact ev_); (case hs => exact srcAll At.hit rfl); (case hk => rfl); (case hm => decide); (case hl => first | rfl | simp); (case hz => decide); (case hb => omega); (case hfree => exact free_))
  intro s6 g
  have hP5 : ∀ o, on = some o → Prv s s5 b5 o := fun o e => by have := hP o e; exact Prv.call ⟨I1.kp.none this.z, this.b, this.s⟩ I7
  have Ib := I8.boxT (c := .cells true 1 [.slice B2 p.length c3]) T5 (Nat.le_refl _)
  have I9 := Ib.grew g (fun q e => ⟨(hP5 q e).z, (hP5 q e).b⟩)
  have PN6 := (PN5.set (N := M5) (c := .cells true 1 [.slice B2 p.length c3])).grew g (fun q e => (hNo q e).1)
  have PN16 := (PN15.set (N := M5) (c := .cells true 1 [.slice B2 p.length c3])).grew g (fun q e => (hNo q e).2)
  have aN6 := Gr.off g (At.miss (by omega) aN5) (fun q e => (hNo q e).1) (by omega)
  have aN16 := Gr.off g (At.miss (by omega) aN15) (fun q e => (hNo q e).2) (by omega)
  have C6 : Cs 1 (RQ b5) (xs ++ [.slice B2 p.length c3]) (q ++ [p]) := (C.mono fun c y => datQ.mono _ _ c y I7.old).snoc rfl ⟨_, rfl, hu⟩
  have G7 : Gr s6 1 0 _ _ (q.length + 1) _ := Gr.app g (by rw [C6.len, List.length_append]; rfl) (Nat.zero_le _)
  obtain ⟨b7, I10, hs7, hw, hpr⟩ := G7.tell2 datQ I9 (fun o e => by obtain rfl := Option.some.inj e; exact Prv.new Ib g) C6
  have PN7 := hpr N (by simp; omega) PN6
  have PN17 := hpr (N + 1) (by simp; omega) PN16
  clear PN6 PN16 I9
  (repeat' (first | (apply Ab.K.ev; exact ev_) | (apply Ab.K.aops; first | (apply Xg.s; constructor) | apply Ab.S.guardG) | (apply Ab.K.aop; first | (apply Og.s; constructor)) | (apply Ab.K.gk; first | (apply Xg.s; constructor) | (apply Ab.gY; case hw => assumption) | (apply Ab.gNT; case hw => assumption) | (apply Ab.gNF; case hw => assumption) | ((first | apply Ab.gD | apply Ab.gDN); all_goals (intro _ _; (first | contradiction | (exfalso; omega) | skip)))) | (apply Ab.K.awp; first | (apply Xg.s; constructor)) | (apply Ab.K.at_; exact at_) | (apply Ab.K.acall; first | assumption | fail) | (apply Ab.Rg.mk; omega) | (apply Ab.Lt.mk; first | decide | (simp; done) | (simp; omega) | fail) | (apply Ab.Get.mk; first | rfl | fail) | (apply Ab.Nm.mk; first | exact nrm_) | (apply Xg.s; constructor) | (apply Ab.asm; assumption) | rfl | infer_instance | decide))
  all_goals apply RetE.puR (b := b7)
  case I => (repeat' (first | assumption | (apply Ab.Inv.boxP; (case p => (repeat' (first | assumption | apply Ab.Prv.set))))))
  case he => exact evr_
  case hg => rfl
  · exact (R2.mk ⟨_, rfl, hw⟩).1
  · exact (R2.mk (y := ⟨base, sent, q ++ [p], clock⟩) ⟨_, rfl, hw⟩).2
end Go.Proofs.Ytoiplbackllgfaa

/- lines: senders: acks, by the program. -/
namespace Go.Proofs.Ytoiplbackllgfaa
set_option linter.unusedVariables false
set_option linter.unusedSimpArgs false
set_option linter.unusedSectionVars false
open Go.RowKit Ab HP
attribute [local irreducible] AOps AOpsD AOpsP QStep NX AOp AWp put nargs AHeap.set At Free ACall ACallE thenQ blockQ roundQ RetQ RetE Src Gr
set_option maxHeartbeats 4000000 in
theorem ack70' {s b : AHeap} {base sent clock n : Int} {v : Value} {q : List (List Int)} (hb : Sub b s) (h : Qt b v q) (hm : Sd.May ⟨base, sent, q, clock⟩) (hn : 0 ≤ n ∧ n ≤ 2147483647) :
    ACallE Try.prog 70 [.agg #[.int .i64 base, .int .i64 sent, v, .int .i64 clock], .int .i64 n] s (Pu s b (R2 (ackS ⟨base, sent, q, clock⟩ n) 0)) := by
  have hq : q.length ≤ 256 := hm.1.2.1
  have hl : ∀ x ∈ q, x.length ≤ 1000000000 := fun x hx => Nat.le_trans (big_get hm.2 x hx) (by omega)
  have hO := hm.1
  simp only [Sd.Ok] at hO
  refine ACallE.make Try.func70 rfl (by kernel_rfl) (by decide) rfl (fun N hN0 => ?_)
  have hT : Top N s := hN0
  obtain ⟨A, cap, rfl, hcap⟩ := h.isl
  obtain ⟨s1, hs1⟩ : ∃ s1 : AHeap, s1 = (s.set N (.cells true 1 [.int .i64 base, .int .i64 sent, .slice A q.length cap, .int .i64 clock])).set (N + 1) (.cells true 1 [.int .i64 0, .int .i64 0, .slice none 0 0, .int .i64 0]) := ⟨_, rfl⟩
  have I1 : Inv s b s1 b := by rw [hs1]; exact ((Inv.refl hb).boxT hT (Nat.le_refl _)).boxT hT.new (Nat.le_refl _)
  have PN : Prv s s1 b N := by rw [hs1]; exact (Prv.mk' (Inv.refl hb) (hT.none (Nat.le_refl _))).set
  have PN1 : Prv s s1 b (N + 1) := by rw [hs1]; exact Prv.mk' ((Inv.refl hb).boxT hT (Nat.le_refl _)) (hT.new.none (Nat.le_refl _))
  have aN : At s1 N (.cells true 1 [.int .i64 base, .int .i64 sent, .slice A q.length cap, .int .i64 clock]) := by rw [hs1]; exact at_
  have aN1 : At s1 (N + 1) (.cells true 1 [.int .i64 0, .int .i64 0, .slice none 0 0, .int .i64 0]) := by rw [hs1]; exact At.hit
  have c43 := checkS' (s := s1) (base := base) (sent := sent) (clock := clock) (h.sub datQ I1.sub) (by omega)
  rw [if_pos hm] at c43
  have c75 := ownQ I1.sub h (by omega) hl

  (repeat' (first | (apply Ab.K.ev; exact ev_) | (apply Ab.K.aops; first | (apply Xg.s; constructor) | apply Ab.S.guardG) | (apply Ab.K.aop; first | (first | (apply Ab.O.boxA N; (case hx => exact ev_); (case hid => exact frees_)) | (apply Ab.O.allocA (N + 1); (case hid => exact frees_); (case hp => rfl)) | (apply Ab.O.callFE; (case ha => exact evs_); (case hc => exact c75))) | (apply Og.s; constructor)) | (apply Ab.K.gk; first | (apply Xg.s; constructor) | (apply Ab.gY; case hw => assumption) | (apply Ab.gNT; case hw => assumption) | (apply Ab.gNF; case hw => assumption) | ((first | apply Ab.gD | apply Ab.gDN); all_goals (intro _ _; (first | contradiction | (exfalso; omega) | skip)))) | (apply Ab.K.aopsD; first | (apply Ab.D.q0t; (case hw => rfl); (case hot => rfl)) | (apply Ab.D.w1t; (case hw => rfl); (case hot => rfl)) | (apply Ab.D.q0; (case hw => rfl); intro _ _) | (apply Ab.D.w1n; (case hw => rfl); intro _ _) | (apply Ab.D.w2n; (case hw => rfl); intro _ _) | (apply Xg.s; constructor) | fail | apply Ab.D.guardG) | (apply Ab.K.aopsP; first | apply Ab.Pd.nil | (apply Ab.Pd.q; (case hi => rfl)) | (apply Ab.Pd.z; (case hi => rfl)) | (apply Ab.Pd.zU; (case hi => rfl); (case hd => rfl); (case hb => (exact ev_; done))) | (apply Ab.Pd.zG; (case hi => rfl); (case hd => rfl)) | (apply Ab.Pd.st; (case hi => rfl)) | (apply Ab.Pd.qU; (case hi => rfl); (case hd => rfl); (case hb => (exact ev_; done))) | (apply Ab.Pd.qG; (case hi => rfl); (case hd => rfl)) | (apply Ab.Pd.stU; (case hi => rfl); (case hd => rfl); (case hb => (exact ev_; done))) | (apply Ab.Pd.stG; (case hi => rfl); (case hd => rfl))) | (apply Ab.Pd.qs; intro _ _) | (apply Ab.Pd.nxE; (case hE => rfl)) | (apply Ab.Pd.nxR; (case hr => (repeat' (first | exact Ab.Sub.del _ _ | assumption | (apply Ab.Sub.setI; (case hn => simp)) | (apply Ab.Sub.setF; (case hn => exact free_)) | exact (Ab.Sub.del _ _).trans (by assumption))))) | exact ⟨rfl, rfl⟩ | (apply Ab.K.awp; first | (apply AWp.draw (id := 8) [[], [], [1], [], [1, 2, 3], [], [5], [], [], [8], [8, 9], [], [11], [11, 12], [5, 6, 7, 8, 9, 10, 11, 12, 13], [0, 1, 2, 5, 6, 8, 9, 11, 12], [0, 1, 2, 5, 6, 8, 9, 11, 12, 15], [0, 1, 2, 3, 4, 5, 6, 8, 9, 11, 12, 15, 16], [0, 1, 2, 3, 4, 5, 6, 8, 9, 11, 12, 15, 16, 17], [0, 1, 2, 3, 4, 5, 6, 7, 8, 9, 10, 11, 12, 13, 14, 15, 16, 17, 18], [0, 1, 2, 3, 4, 5, 6, 7, 8, 9, 10, 11, 12, 13, 14, 15, 16, 17, 18, 19], [0, 1, 2, 3, 4, 5, 6, 7, 8, 9, 10, 11, 12, 13, 14, 15, 16, 17, 18, 19, 20], [0, 1, 2, 3, 4, 5, 6, 7, 8, 9, 10, 11, 12, 13, 14, 15, 16, 17, 18, 19, 20, 21]] [(16, [N]), (18, [N]), (20, [N]), (22, [N])] (by kernel_rfl) (by kernel_rfl) (by simp [apartW, unordB, cC] <;> omega)) | (apply Xg.s; constructor)) | (apply Ab.K.at_; exact at_) | (apply Ab.K.acall; first | assumption | (rw [← hs1]; exact c43)) | (apply Ab.Rg.mk; omega) | (apply Ab.Lt.mk; first | decide | (simp; done) | (simp; omega) | fail) | (apply Ab.Get.mk; first | rfl | fail) | (apply Ab.Nm.mk; first | exact nrm_) | (apply Xg.s; constructor) | (apply Ab.asm; assumption) | rfl | infer_instance | decide))
  rintro u s3 ⟨b3, I4, hu⟩
  clear c43 c75 hs1
  have I5 := I1.trans I4
  have aN3 := I4.kp.at_ aN
  have aN13 := I4.kp.at_ aN1
  have PN3 := PN.call I4
  have PN13 := PN1.call I4
  obtain ⟨B, c2, rfl, hB⟩ := hu.isl
  clear aN aN1 PN PN1 I1
  by_cases hk : n ≤ base ∨ n - base > sent
  · have hy : ackS ⟨base, sent, q, clock⟩ n = ⟨base, sent, q, clock⟩ := if_pos hk
    rw [hy]
    by_cases hk2 : n ≤ base
    all_goals (repeat' (first | (apply Ab.K.ev; exact ev_) | (apply Ab.K.aops; first | (apply Xg.s; constructor) | apply Ab.S.guardG) | (apply Ab.K.aop; first | (apply Og.s; constructor)) | (apply Ab.K.gk; first | (apply Xg.s; constructor) | (apply Ab.gY; case hw => assumption) | (apply Ab.gNT; case hw => assumption) | (apply Ab.gNF; case hw => assumption) | ((first | apply Ab.gD | apply Ab.gDN); all_goals (intro _ _; (first | contradiction | (exfalso; omega) | skip)))) | (apply Ab.K.aopsD; first | (apply Ab.D.q0t; (case hw => rfl); (case hot => rfl)) | (apply Ab.D.w1t; (case hw => rfl); (case hot => rfl)) | (apply Ab.D.q0; (case hw => rfl); intro _ _) | (apply Ab.D.w1n; (case hw => rfl); intro _ _) | (apply Ab.D.w2n; (case hw => rfl); intro _ _) | (apply Xg.s; constructor) | fail | apply Ab.D.guardG) | (apply Ab.K.aopsP; first | apply Ab.Pd.nil | (apply Ab.Pd.q; (case hi => rfl)) | (apply Ab.Pd.z; (case hi => rfl)) | (apply Ab.Pd.zU; (case hi => rfl); (case hd => rfl); (case hb => (exact ev_; done))) | (apply Ab.Pd.zG; (case hi => rfl); (case hd => rfl)) | (apply Ab.Pd.st; (case hi => rfl)) | (apply Ab.Pd.qU; (case hi => rfl); (case hd => rfl); (case hb => (exact ev_; done))) | (apply Ab.Pd.qG; (case hi => rfl); (case hd => rfl)) | (apply Ab.Pd.stU; (case hi => rfl); (case hd => rfl); (case hb => (exact ev_; done))) | (apply Ab.Pd.stG; (case hi => rfl); (case hd => rfl))) | (apply Ab.Pd.qs; intro _ _) | (apply Ab.Pd.nxE; (case hE => rfl)) | (apply Ab.Pd.nxR; (case hr => (repeat' (first | exact Ab.Sub.del _ _ | assumption | (apply Ab.Sub.setI; (case hn => simp)) | (apply Ab.Sub.setF; (case hn => exact free_)) | exact (Ab.Sub.del _ _).trans (by assumption))))) | exact ⟨rfl, rfl⟩ | (apply Ab.K.awp; first | (apply AWp.draw (id := 8) [[], [], [1], [], [1, 2, 3], [], [5], [], [], [8], [8, 9], [], [11], [11, 12], [5, 6, 7, 8, 9, 10, 11, 12, 13], [0, 1, 2, 5, 6, 8, 9, 11, 12], [0, 1, 2, 5, 6, 8, 9, 11, 12, 15], [0, 1, 2, 3, 4, 5, 6, 8, 9, 11, 12, 15, 16], [0, 1, 2, 3, 4, 5, 6, 8, 9, 11, 12, 15, 16, 17], [0, 1, 2, 3, 4, 5, 6, 7, 8, 9, 10, 11, 12, 13, 14, 15, 16, 17, 18], [0, 1, 2, 3, 4, 5, 6, 7, 8, 9, 10, 11, 12, 13, 14, 15, 16, 17, 18, 19], [0, 1, 2, 3, 4, 5, 6, 7, 8, 9, 10, 11, 12, 13, 14, 15, 16, 17, 18, 19, 20], [0, 1, 2, 3, 4, 5, 6, 7, 8, 9, 10, 11, 12, 13, 14, 15, 16, 17, 18, 19, 20, 21]] [(16, [N]), (18, [N]), (20, [N]), (22, [N])] (by kernel_rfl) (by kernel_rfl) (by simp [apartW, unordB, cC] <;> omega)) | (apply Xg.s; constructor)) | (apply Ab.K.at_; exact at_) | (apply Ab.K.acall; first | assumption | fail) | (apply Ab.Rg.mk; omega) | (apply Ab.Lt.mk; first | decide | (simp; done) | (simp; omega) | fail) | (apply Ab.Get.mk; first | rfl | fail) | (apply Ab.Nm.mk; first | exact nrm_) | (apply Xg.s; constructor) | (apply Ab.asm; assumption) | rfl | infer_instance | decide))
    all_goals apply RetE.puR (b := b3)
    case I => (repeat' (first | assumption | (apply Ab.Inv.boxP; (case p => (repeat' (first | assumption | apply Ab.Prv.set))))))
    case I => (repeat' (first | assumption | (apply Ab.Inv.boxP; (case p => (repeat' (first | assumption | apply Ab.Prv.set))))))
    case he => exact evr_
    case he => exact evr_
    case hg => rfl
    case hg => rfl
    case hq => exact (R2.mk ⟨_, rfl, hu⟩).1
    case hq => exact (R2.mk ⟨_, rfl, hu⟩).1
    all_goals exact (R2.mk (y := ⟨base, sent, q, clock⟩) ⟨_, rfl, hu⟩).2
  · have hq0 : q.length ≠ 0 := by omega
    obtain ⟨o, off, sp, rw', cs, rfl, ab, hx⟩ : ∃ o off sp rw' cs, B = some ⟨o, off, sp⟩ ∧ At b3 o (.cells rw' 1 cs) ∧ Cs 1 (RQ b3) ((cs.drop off).take (q.length * 1)) q := by
      rcases hu.open_ with ⟨_, e⟩ | ⟨o, off, c, sp, rw', cs, e, _, ha, hx⟩
      · exact absurd (by rw [e]; rfl) hq0
      · injection e with e1 e2 e3; exact ⟨o, off, sp, rw', cs, e1, ha, hx⟩
    have ao := I5.sub.at_ ab
    have hoN : o ≠ N := fun e => by subst e; have h2 := PN3.b; rw [ab.eq] at h2; cases h2
    have hcm := hu.cut (n - base).toNat (q.length - (n - base).toNat) (by omega) (some 0) (q.length - (n - base).toNat) (Nat.le_refl _)
    rw [List.take_of_length_le (by rw [List.length_drop]; omega)] at hcm
    replace hcm : Qt b3 (.slice (some ⟨o, off + (n - base).toNat, some 0⟩) ((q.length : Int).toNat - (n - base).toNat) ((q.length : Int).toNat - (n - base).toNat)) (q.drop (n - base).toNat) := by
      rw [Int.toNat_natCast]; rw [Nat.mul_one] at hcm; exact hcm
    have hy : ackS ⟨base, sent, q, clock⟩ n = ⟨n, sent - (n - base), q.drop (n - base).toNat, if sent - (n - base) = 0 then 0 else 4⟩ := if_neg hk
    rw [hy]
    clear hy
    by_cases h0 : sent - (n - base) = 0
    case' pos => rw [if_pos h0]
    case' neg => rw [if_neg h0]
    all_goals (repeat' (first | (apply Ab.K.ev; exact ev_) | (apply Ab.K.aops; first | (apply Xg.s; constructor) | apply Ab.S.guardG) | (apply Ab.K.aop; first | (apply Og.s; constructor)) | (apply Ab.K.gk; first | (apply Xg.s; constructor) | (apply Ab.gY; case hw => assumption) | (apply Ab.gNT; case hw => assumption) | (apply Ab.gNF; case hw => assumption) | ((first | apply Ab.gD | apply Ab.gDN); all_goals (intro _ _; (first | contradiction | (exfalso; omega) | skip)))) | (apply Ab.K.aopsD; first | (apply Ab.D.q0t; (case hw => rfl); (case hot => rfl)) | (apply Ab.D.w1t; (case hw => rfl); (case hot => rfl)) | (apply Ab.D.q0; (case hw => rfl); intro _ _) | (apply Ab.D.w1n; (case hw => rfl); intro _ _) | (apply Ab.D.w2n; (case hw => rfl); intro _ _) | (apply Xg.s; constructor) | fail | apply Ab.D.guardG) | (apply Ab.K.aopsP; first | apply Ab.Pd.nil | (apply Ab.Pd.q; (case hi => rfl)) | (apply Ab.Pd.z; (case hi => rfl)) | (apply Ab.Pd.zU; (case hi => rfl); (case hd => rfl); (case hb => (exact ev_; done))) | (apply Ab.Pd.zG; (case hi => rfl); (case hd => rfl)) | (apply Ab.Pd.st; (case hi => rfl)) | (apply Ab.Pd.qU; (case hi => rfl); (case hd => rfl); (case hb => (exact ev_; done))) | (apply Ab.Pd.qG; (case hi => rfl); (case hd => rfl)) | (apply Ab.Pd.stU; (case hi => rfl); (case hd => rfl); (case hb => (exact ev_; done))) | (apply Ab.Pd.stG; (case hi => rfl); (case hd => rfl))) | (apply Ab.Pd.qs; intro _ _) | (apply Ab.Pd.nxE; (case hE => rfl)) | (apply Ab.Pd.nxR; (case hr => (repeat' (first | exact Ab.Sub.del _ _ | assumption | (apply Ab.Sub.setI; (case hn => simp)) | (apply Ab.Sub.setF; (case hn => exact free_)) | exact (Ab.Sub.del _ _).trans (by assumption))))) | exact ⟨rfl, rfl⟩ | (apply Ab.K.awp; first | (apply AWp.draw (id := 8) [[], [], [1], [], [1, 2, 3], [], [5], [], [], [8], [8, 9], [], [11], [11, 12], [5, 6, 7, 8, 9, 10, 11, 12, 13], [0, 1, 2, 5, 6, 8, 9, 11, 12], [0, 1, 2, 5, 6, 8, 9, 11, 12, 15], [0, 1, 2, 3, 4, 5, 6, 8, 9, 11, 12, 15, 16], [0, 1, 2, 3, 4, 5, 6, 8, 9, 11, 12, 15, 16, 17], [0, 1, 2, 3, 4, 5, 6, 7, 8, 9, 10, 11, 12, 13, 14, 15, 16, 17, 18], [0, 1, 2, 3, 4, 5, 6, 7, 8, 9, 10, 11, 12, 13, 14, 15, 16, 17, 18, 19], [0, 1, 2, 3, 4, 5, 6, 7, 8, 9, 10, 11, 12, 13, 14, 15, 16, 17, 18, 19, 20], [0, 1, 2, 3, 4, 5, 6, 7, 8, 9, 10, 11, 12, 13, 14, 15, 16, 17, 18, 19, 20, 21]] [(16, [N]), (18, [N]), (20, [N]), (22, [N])] (by kernel_rfl) (by kernel_rfl) (by simp [apartW, unordB, cC] <;> omega)) | (apply Xg.s; constructor)) | (apply Ab.K.at_; exact at_) | (apply Ab.K.acall; first | assumption | fail) | (apply Ab.Rg.mk; omega) | (apply Ab.Lt.mk; first | decide | (simp; done) | (simp; omega) | fail) | (apply Ab.Get.mk; first | rfl | fail) | (apply Ab.Nm.mk; first | exact nrm_) | (apply Xg.s; constructor) | (apply Ab.asm; assumption) | rfl | infer_instance | decide))
    all_goals apply RetE.puR (b := b3)
    case I => (repeat' (first | assumption | (apply Ab.Inv.boxP; (case p => (repeat' (first | assumption | apply Ab.Prv.set))))))
    case I => (repeat' (first | assumption | (apply Ab.Inv.boxP; (case p => (repeat' (first | assumption | apply Ab.Prv.set))))))
    case he => exact evr_
    case he => exact evr_
    case hg => rfl
    case hg => rfl
    case hq => exact (R2.mk ⟨_, rfl, hcm⟩).1
    case hq => exact (R2.mk ⟨_, rfl, hcm⟩).1
    · exact (R2.mk (y := ⟨n, sent - (n - base), q.drop (n - base).toNat, _⟩) (e := 0) ⟨_, rfl, hcm⟩).2
    · exact (R2.mk (y := ⟨n, sent - (n - base), q.drop (n - base).toNat, _⟩) (e := 0) ⟨_, rfl, hcm⟩).2
end Go.Proofs.Ytoiplbackllgfaa

/- lines: senders: acks and ticks, by the document. -/
namespace Go.Proofs.Ytoiplbackllgfaa
set_option linter.unusedVariables false
set_option linter.unusedSimpArgs false
set_option linter.unusedSectionVars false
open Go.RowKit Ab HP
attribute [local irreducible] AOps AOpsD AOpsP QStep NX AOp AWp put nargs AHeap.set At Free ACall ACallE thenQ blockQ roundQ RetQ RetE Src Gr
/-- A sender, what it sends. -/
def RR (y : Sd) (l : List Nb) (r : Value) (b : AHeap) : Prop := ∃ c w, r = .tuple #[.agg c.toArray, w] ∧ RS b c y ∧ Sl b 2 (RN b) w l
theorem RR.mk {y : Sd} {l : List Nb} {b : AHeap} {c : List Value} {w : Value} (h : RS b c y) (k : Sl b 2 (RN b) w l) : RR y l (resV [.agg c.toArray, w]) b ∧ nmR (fun i => (b i).isSome = true) (resV [.agg c.toArray, w]) := by
  refine ⟨⟨c, w, rfl, h, k⟩, ?_⟩
  refine nmT (l := [_, _]) fun x hx => ?_
  simp only [List.mem_cons, List.not_mem_nil, or_false] at hx
  rcases hx with rfl | rfl
  · exact nmG (datS.nm _ _ _ h)
  · exact k.nmB
/-- A sender. -/
def R1 (y : Sd) (r : Value) (b : AHeap) : Prop := ∃ c, r = .agg c.toArray ∧ RS b c y
theorem R1.mk {y : Sd} {b : AHeap} {c : List Value} (h : RS b c y) : R1 y (resV [.agg c.toArray]) b ∧ nmR (fun i => (b i).isSome = true) (resV [.agg c.toArray]) := ⟨⟨c, rfl, h⟩, nmGR (datS.nm _ _ _ h)⟩
set_option maxHeartbeats 4000000 in
theorem tick63' {s b : AHeap} {base clock : Int} {k : Nat} {v : Value} {q : List (List Int)} (hb : Sub b s) (h : Qt b v q) (hm : Sd.May ⟨base, k, q, clock⟩) :
    ACallE Try.prog 63 [.agg #[.int .i64 base, .int .i64 k, v, .int .i64 clock]] s (Pu s b (RR (tickS ⟨base, k, q, clock⟩).1 (tickS ⟨base, k, q, clock⟩).2)) := by
  have hq : q.length ≤ 256 := hm.1.2.1
  have hO := hm.1
  simp only [Sd.Ok] at hO
  refine ACallE.make Try.func63 rfl (by kernel_rfl) (by decide) rfl (fun N hN0 => ?_)
  have hT : Top N s := hN0
  obtain ⟨A, cap, rfl, hcap⟩ := h.isl
  have I1 : Inv s b ((s.set N (.cells true 1 [.int .i64 base, .int .i64 k, .slice A q.length cap, .int .i64 clock])).set (N + 1) (.cells true 1 [.int .i64 0, .int .i64 0, .slice none 0 0, .int .i64 0])) b := ((Inv.refl hb).boxT hT (Nat.le_refl _)).boxT hT.new (Nat.le_refl _)
  have PN : Prv s ((s.set N (.cells true 1 [.int .i64 base, .int .i64 k, .slice A q.length cap, .int .i64 clock])).set (N + 1) (.cells true 1 [.int .i64 0, .int .i64 0, .slice none 0 0, .int .i64 0])) b N := (Prv.mk' (Inv.refl hb) (hT.none (Nat.le_refl _))).set
  have PN1 : Prv s ((s.set N (.cells true 1 [.int .i64 base, .int .i64 k, .slice A q.length cap, .int .i64 clock])).set (N + 1) (.cells true 1 [.int .i64 0, .int .i64 0, .slice none 0 0, .int .i64 0])) b (N + 1) := Prv.mk' ((Inv.refl hb).boxT hT (Nat.le_refl _)) (hT.new.none (Nat.le_refl _))
  by_cases hk : (k : Int) = 0
  · have hy : tickS ⟨base, k, q, clock⟩ = (⟨base, k, q, clock⟩, []) := if_pos hk
    rw [hy]
    (repeat' (first | (apply Ab.K.ev; exact ev_) | (apply Ab.K.aops; first | (apply Xg.s; constructor) | apply Ab.S.guardG) | (apply Ab.K.aop; first | (first | (apply Ab.O.boxA N; (case hx => exact ev_); (case hid => exact frees_)) | (apply Ab.O.allocA (N + 1); (case hid => exact frees_); (case hp => rfl))) | (apply Og.s; constructor)) | (apply Ab.K.gk; first | (apply Xg.s; constructor) | (apply Ab.gY; case hw => assumption) | (apply Ab.gNT; case hw => assumption) | (apply Ab.gNF; case hw => assumption) | ((first | apply Ab.gD | apply Ab.gDN); all_goals (intro _ _; (first | contradiction | (exfalso; omega) | skip)))) | (apply Ab.K.aopsD; first | (apply Ab.D.q0t; (case hw => rfl); (case hot => rfl)) | (apply Ab.D.w1t; (case hw => rfl); (case hot => rfl)) | (apply Ab.D.q0; (case hw => rfl); intro _ _) | (apply Ab.D.w1n; (case hw => rfl); intro _ _) | (apply Ab.D.w2n; (case hw => rfl); intro _ _) | (apply Xg.s; constructor) | fail | apply Ab.D.guardG) | (apply Ab.K.aopsP; first | apply Ab.Pd.nil | (apply Ab.Pd.q; (case hi => rfl)) | (apply Ab.Pd.z; (case hi => rfl)) | (apply Ab.Pd.zU; (case hi => rfl); (case hd => rfl); (case hb => (exact ev_; done))) | (apply Ab.Pd.zG; (case hi => rfl); (case hd => rfl)) | (apply Ab.Pd.st; (case hi => rfl)) | (apply Ab.Pd.qU; (case hi => rfl); (case hd => rfl); (case hb => (exact ev_; done))) | (apply Ab.Pd.qG; (case hi => rfl); (case hd => rfl)) | (apply Ab.Pd.stU; (case hi => rfl); (case hd => rfl); (case hb => (exact ev_; done))) | (apply Ab.Pd.stG; (case hi => rfl); (case hd => rfl))) | (apply Ab.Pd.qs; intro _ _) | (apply Ab.Pd.nxE; (case hE => rfl)) | (apply Ab.Pd.nxR; (case hr => (repeat' (first | exact Ab.Sub.del _ _ | assumption | (apply Ab.Sub.setI; (case hn => simp)) | (apply Ab.Sub.setF; (case hn => exact free_)) | exact (Ab.Sub.del _ _).trans (by assumption))))) | exact ⟨rfl, rfl⟩ | (apply Ab.K.awp; first | (apply AWp.schedS (id := 7) [(0, 1), (1, 1), (2, 2), (3, 1), (4, 0), (5, 0), (6, 0)] [5, 6] [[], [], [], [2], [1, 2, 3], [0, 1, 2, 3, 4], [0, 1, 2, 3, 4, 5]] [] (by kernel_rfl) (by kernel_rfl) (by kernel_rfl) rfl) | (apply Xg.s; constructor)) | (apply Ab.K.at_; exact at_) | (apply Ab.K.acall; first | assumption | fail) | (apply Ab.Rg.mk; omega) | (apply Ab.Lt.mk; first | decide | (simp; done) | (simp; omega) | fail) | (apply Ab.Get.mk; first | rfl | fail) | (apply Ab.Nm.mk; first | exact nrm_) | (apply Xg.s; constructor) | (apply Ab.asm; assumption) | rfl | infer_instance | decide))
    all_goals apply RetE.puR (b := b)
    case I => (repeat' (first | assumption | (apply Ab.Inv.boxP; (case p => (repeat' (first | assumption | apply Ab.Prv.set))))))
    case he => exact evr_
    case hg => rfl
    · exact (RR.mk ⟨_, rfl, h⟩ .nil).1
    · exact (RR.mk (y := ⟨base, k, q, clock⟩) ⟨_, rfl, h⟩ .nil).2
  by_cases hc : clock - 1 > 0
  · have hy : tickS ⟨base, k, q, clock⟩ = (⟨base, k, q, clock - 1⟩, []) := by
      show (if (k : Int) = 0 then _ else if clock - 1 > 0 then _ else _) = _
      rw [if_neg hk, if_pos hc]
    rw [hy]
    (repeat' (first | (apply Ab.K.ev; exact ev_) | (apply Ab.K.aops; first | (apply Xg.s; constructor) | apply Ab.S.guardG) | (apply Ab.K.aop; first | (first | (apply Ab.O.boxA N; (case hx => exact ev_); (case hid => exact frees_)) | (apply Ab.O.allocA (N + 1); (case hid => exact frees_); (case hp => rfl))) | (apply Og.s; constructor)) | (apply Ab.K.gk; first | (apply Xg.s; constructor) | (apply Ab.gY; case hw => assumption) | (apply Ab.gNT; case hw => assumption) | (apply Ab.gNF; case hw => assumption) | ((first | apply Ab.gD | apply Ab.gDN); all_goals (intro _ _; (first | contradiction | (exfalso; omega) | skip)))) | (apply Ab.K.aopsD; first | (apply Ab.D.q0t; (case hw => rfl); (case hot => rfl)) | (apply Ab.D.w1t; (case hw => rfl); (case hot => rfl)) | (apply Ab.D.q0; (case hw => rfl); intro _ _) | (apply Ab.D.w1n; (case hw => rfl); intro _ _) | (apply Ab.D.w2n; (case hw => rfl); intro _ _) | (apply Xg.s; constructor) | fail | apply Ab.D.guardG) | (apply Ab.K.aopsP; first | apply Ab.Pd.nil | (apply Ab.Pd.q; (case hi => rfl)) | (apply Ab.Pd.z; (case hi => rfl)) | (apply Ab.Pd.zU; (case hi => rfl); (case hd => rfl); (case hb => (exact ev_; done))) | (apply Ab.Pd.zG; (case hi => rfl); (case hd => rfl)) | (apply Ab.Pd.st; (case hi => rfl)) | (apply Ab.Pd.qU; (case hi => rfl); (case hd => rfl); (case hb => (exact ev_; done))) | (apply Ab.Pd.qG; (case hi => rfl); (case hd => rfl)) | (apply Ab.Pd.stU; (case hi => rfl); (case hd => rfl); (case hb => (exact ev_; done))) | (apply Ab.Pd.stG; (case hi => rfl); (case hd => rfl))) | (apply Ab.Pd.qs; intro _ _) | (apply Ab.Pd.nxE; (case hE => rfl)) | (apply Ab.Pd.nxR; (case hr => (repeat' (first | exact Ab.Sub.del _ _ | assumption | (apply Ab.Sub.setI; (case hn => simp)) | (apply Ab.Sub.setF; (case hn => exact free_)) | exact (Ab.Sub.del _ _).trans (by assumption))))) | exact ⟨rfl, rfl⟩ | (apply Ab.K.awp; first | (apply AWp.schedS (id := 7) [(0, 1), (1, 1), (2, 2), (3, 1), (4, 0), (5, 0), (6, 0)] [5, 6] [[], [], [], [2], [1, 2, 3], [0, 1, 2, 3, 4], [0, 1, 2, 3, 4, 5]] [] (by kernel_rfl) (by kernel_rfl) (by kernel_rfl) rfl) | (apply Xg.s; constructor)) | (apply Ab.K.at_; exact at_) | (apply Ab.K.acall; first | assumption | fail) | (apply Ab.Rg.mk; omega) | (apply Ab.Lt.mk; first | decide | (simp; done) | (simp; omega) | fail) | (apply Ab.Get.mk; first | rfl | fail) | (apply Ab.Nm.mk; first | exact nrm_) | (apply Xg.s; constructor) | (apply Ab.asm; assumption) | rfl | infer_instance | decide))
    all_goals apply RetE.puR (b := b)
    case I => (repeat' (first | assumption | (apply Ab.Inv.boxP; (case p => (repeat' (first | assumption | apply Ab.Prv.set))))))
    case he => exact evr_
    case hg => rfl
    · exact (RR.mk ⟨_, rfl, h⟩ .nil).1
    · exact (RR.mk (y := ⟨base, k, q, clock - 1⟩) ⟨_, rfl, h⟩ .nil).2
  · have hy : tickS ⟨base, k, q, clock⟩ = (⟨base, k, q, 4⟩, ((nmb base q).drop 0).take (k - 0)) := by
      show (if (k : Int) = 0 then _ else if clock - 1 > 0 then _ else (_, (nmb base q).take (k : Int).toNat)) = _
      rw [if_neg hk, if_neg hc, Int.toNat_natCast]; rfl
    rw [hy]
    obtain ⟨s3, hs3⟩ : ∃ s3 : AHeap, s3 = (s.set N (.cells true 1 [.int .i64 base, .int .i64 k, .slice A q.length cap, .int .i64 clock])).set (N + 1) (.cells true 1 [.int .i64 0, .int .i64 0, .slice none 0 0, .int .i64 0]) := ⟨_, rfl⟩
    rw [← hs3] at I1 PN PN1
    obtain ⟨s4, hs4⟩ : ∃ s4 : AHeap, s4 = (s3.set N (.cells true 1 [.int .i64 base, .int .i64 k, .slice A q.length cap, .int .i64 (clock - 1)])).set N (.cells true 1 [.int .i64 base, .int .i64 k, .slice A q.length cap, .int .i64 4]) := ⟨_, rfl⟩
    have I6 : Inv s b s4 b := by rw [hs4]; (repeat' (first | assumption | (apply Ab.Inv.boxP; (case p => (repeat' (first | assumption | apply Ab.Prv.set))))))
    have P6 : Prv s s4 b N := by rw [hs4]; (repeat' (first | assumption | apply Ab.Prv.set))
    have P61 : Prv s s4 b (N + 1) := by rw [hs4]; (repeat' (first | assumption | apply Ab.Prv.set))
    have a6 : At s4 N (.cells true 1 [.int .i64 base, .int .i64 k, .slice A q.length cap, .int .i64 4]) := by rw [hs4]; exact At.hit
    have a61 : At s4 (N + 1) (.cells true 1 [.int .i64 0, .int .i64 0, .slice none 0 0, .int .i64 0]) := by rw [hs4, hs3]; exact at_
    have c76 := list77 (f := 0) (t := k) (sent := k) (clock := 4) (base := base) I6.sub h (by omega) (by omega) (by omega) hO.1
    (repeat' (first | (apply Ab.K.ev; exact ev_) | (apply Ab.K.aops; first | (apply Xg.s; constructor) | apply Ab.S.guardG) | (apply Ab.K.aop; first | (first | (apply Ab.O.boxA N; (case hx => exact ev_); (case hid => exact frees_)) | (apply Ab.O.allocA (N + 1); (case hid => exact frees_); (case hp => rfl)) | (apply Ab.O.callFE; (case ha => exact evs_); (case hc => rw [← hs3, ← hs4]; exact c76))) | (apply Og.s; constructor)) | (apply Ab.K.gk; first | (apply Xg.s; constructor) | (apply Ab.gY; case hw => assumption) | (apply Ab.gNT; case hw => assumption) | (apply Ab.gNF; case hw => assumption) | ((first | apply Ab.gD | apply Ab.gDN); all_goals (intro _ _; (first | contradiction | (exfalso; omega) | skip)))) | (apply Ab.K.aopsD; first | (apply Ab.D.q0t; (case hw => rfl); (case hot => rfl)) | (apply Ab.D.w1t; (case hw => rfl); (case hot => rfl)) | (apply Ab.D.q0; (case hw => rfl); intro _ _) | (apply Ab.D.w1n; (case hw => rfl); intro _ _) | (apply Ab.D.w2n; (case hw => rfl); intro _ _) | (apply Xg.s; constructor) | fail | apply Ab.D.guardG) | (apply Ab.K.aopsP; first | apply Ab.Pd.nil | (apply Ab.Pd.q; (case hi => rfl)) | (apply Ab.Pd.z; (case hi => rfl)) | (apply Ab.Pd.zU; (case hi => rfl); (case hd => rfl); (case hb => (exact ev_; done))) | (apply Ab.Pd.zG; (case hi => rfl); (case hd => rfl)) | (apply Ab.Pd.st; (case hi => rfl)) | (apply Ab.Pd.qU; (case hi => rfl); (case hd => rfl); (case hb => (exact ev_; done))) | (apply Ab.Pd.qG; (case hi => rfl); (case hd => rfl)) | (apply Ab.Pd.stU; (case hi => rfl); (case hd => rfl); (case hb => (exact ev_; done))) | (apply Ab.Pd.stG; (case hi => rfl); (case hd => rfl))) | (apply Ab.Pd.qs; intro _ _) | (apply Ab.Pd.nxE; (case hE => rfl)) | (apply Ab.Pd.nxR; (case hr => (repeat' (first | exact Ab.Sub.del _ _ | assumption | (apply Ab.Sub.setI; (case hn => simp)) | (apply Ab.Sub.setF; (case hn => exact free_)) | exact (Ab.Sub.del _ _).trans (by assumption))))) | exact ⟨rfl, rfl⟩ | (apply Ab.K.awp; first | (apply AWp.schedS (id := 7) [(0, 1), (1, 1), (2, 2), (3, 1), (4, 0), (5, 0), (6, 0)] [5, 6] [[], [], [], [2], [1, 2, 3], [0, 1, 2, 3, 4], [0, 1, 2, 3, 4, 5]] [] (by kernel_rfl) (by kernel_rfl) (by kernel_rfl) rfl) | (apply Xg.s; constructor)) | (apply Ab.K.at_; exact at_) | (apply Ab.K.acall; first | assumption | fail) | (apply Ab.Rg.mk; omega) | (apply Ab.Lt.mk; first | decide | (simp; done) | (simp; omega) | fail) | (apply Ab.Get.mk; first | rfl | fail) | (apply Ab.Nm.mk; first | exact nrm_) | (apply Xg.s; constructor) | (apply Ab.asm; assumption) | rfl | infer_instance | decide))
    rintro w s5 ⟨b5, I7, hw⟩
    clear c76
    rw [← hs3, ← hs4]
    refine Pd.nxR ((Sub.del _ _).trans I7.kp) ?_
    have I8 := I6.trans I7
    have P8 := P6.call I7
    have P81 := P61.call I7
    have a8 := I7.kp.at_ a6
    have a81 := I7.kp.at_ a61
    have hu8 := h.sub datQ I7.old
    obtain ⟨D, c3, rfl, _⟩ := hw.isl
    (repeat' (first | (apply Ab.K.ev; exact ev_) | (apply Ab.K.aops; first | (apply Xg.s; constructor) | apply Ab.S.guardG) | (apply Ab.K.aop; first | (apply Og.s; constructor)) | (apply Ab.K.gk; first | (apply Xg.s; constructor) | (apply Ab.gY; case hw => assumption) | (apply Ab.gNT; case hw => assumption) | (apply Ab.gNF; case hw => assumption) | ((first | apply Ab.gD | apply Ab.gDN); all_goals (intro _ _; (first | contradiction | (exfalso; omega) | skip)))) | (apply Ab.K.aopsD; first | (apply Ab.D.q0t; (case hw => rfl); (case hot => rfl)) | (apply Ab.D.w1t; (case hw => rfl); (case hot => rfl)) | (apply Ab.D.q0; (case hw => rfl); intro _ _) | (apply Ab.D.w1n; (case hw => rfl); intro _ _) | (apply Ab.D.w2n; (case hw => rfl); intro _ _) | (apply Xg.s; constructor) | fail | apply Ab.D.guardG) | (apply Ab.K.aopsP; first | apply Ab.Pd.nil | (apply Ab.Pd.q; (case hi => rfl)) | (apply Ab.Pd.z; (case hi => rfl)) | (apply Ab.Pd.zU; (case hi => rfl); (case hd => rfl); (case hb => (exact ev_; done))) | (apply Ab.Pd.zG; (case hi => rfl); (case hd => rfl)) | (apply Ab.Pd.st; (case hi => rfl)) | (apply Ab.Pd.qU; (case hi => rfl); (case hd => rfl); (case hb => (exact ev_; done))) | (apply Ab.Pd.qG; (case hi => rfl); (case hd => rfl)) | (apply Ab.Pd.stU; (case hi => rfl); (case hd => rfl); (case hb => (exact ev_; done))) | (apply Ab.Pd.stG; (case hi => rfl); (case hd => rfl))) | (apply Ab.Pd.qs; intro _ _) | (apply Ab.Pd.nxE; (case hE => rfl)) | (apply Ab.Pd.nxR; (case hr => (repeat' (first | exact Ab.Sub.del _ _ | assumption | (apply Ab.Sub.setI; (case hn => simp)) | (apply Ab.Sub.setF; (case hn => exact free_)) | exact (Ab.Sub.del _ _).trans (by assumption))))) | exact ⟨rfl, rfl⟩ | (apply Ab.K.awp; first | (apply AWp.schedS (id := 7) [(0, 1), (1, 1), (2, 2), (3, 1), (4, 0), (5, 0), (6, 0)] [5, 6] [[], [], [], [2], [1, 2, 3], [0, 1, 2, 3, 4], [0, 1, 2, 3, 4, 5]] [] (by kernel_rfl) (by kernel_rfl) (by kernel_rfl) rfl) | (apply Xg.s; constructor)) | (apply Ab.K.at_; exact at_) | (apply Ab.K.acall; first | assumption | fail) | (apply Ab.Rg.mk; omega) | (apply Ab.Lt.mk; first | decide | (simp; done) | (simp; omega) | fail) | (apply Ab.Get.mk; first | rfl | fail) | (apply Ab.Nm.mk; first | exact nrm_) | (apply Xg.s; constructor) | (apply Ab.asm; assumption) | rfl | infer_instance | decide))
    all_goals apply RetE.puR (b := b5)
    case I => (repeat' (first | assumption | (apply Ab.Inv.boxP; (case p => (repeat' (first | assumption | apply Ab.Prv.set))))))
    case he => exact evr_
    case hg => rfl
    · exact (RR.mk ⟨_, rfl, hu8⟩ hw).1
    · exact (RR.mk (y := ⟨base, k, q, 4⟩) ⟨_, rfl, hu8⟩ hw).2
set_option maxHeartbeats 4000000 in
theorem ack48' {s b : AHeap} {base sent clock n : Int} {v : Value} {q : List (List Int)} (hb : Sub b s) (h : Qt b v q) (hm : Sd.May ⟨base, sent, q, clock⟩) (hn : 0 ≤ n ∧ n ≤ 2147483647) :
    ACallE Try.prog 48 [.agg #[.int .i64 base, .int .i64 sent, v, .int .i64 clock], .int .i64 n] s (Pu s b (R1 (ackS ⟨base, sent, q, clock⟩ n))) := by
  have hq : q.length ≤ 256 := hm.1.2.1
  have hO := hm.1
  simp only [Sd.Ok] at hO
  refine ACallE.make Try.func48 rfl (by kernel_rfl) (by decide) rfl (fun N hN0 => ?_)
  have hT : Top N s := hN0
  obtain ⟨A, cap, rfl, hcap⟩ := h.isl
  obtain ⟨s1, hs1⟩ : ∃ s1 : AHeap, s1 = (s.set N (.cells true 1 [.int .i64 base, .int .i64 sent, .slice A q.length cap, .int .i64 clock])).set (N + 1) (.cells true 1 [.int .i64 0, .int .i64 0, .slice none 0 0, .int .i64 0]) := ⟨_, rfl⟩
  have I1 : Inv s b s1 b := by rw [hs1]; exact ((Inv.refl hb).boxT hT (Nat.le_refl _)).boxT hT.new (Nat.le_refl _)
  have PN : Prv s s1 b N := by rw [hs1]; exact (Prv.mk' (Inv.refl hb) (hT.none (Nat.le_refl _))).set
  have PN1 : Prv s s1 b (N + 1) := by rw [hs1]; exact Prv.mk' ((Inv.refl hb).boxT hT (Nat.le_refl _)) (hT.new.none (Nat.le_refl _))
  have aN : At s1 N (.cells true 1 [.int .i64 base, .int .i64 sent, .slice A q.length cap, .int .i64 clock]) := by rw [hs1]; exact at_
  have aN1 : At s1 (N + 1) (.cells true 1 [.int .i64 0, .int .i64 0, .slice none 0 0, .int .i64 0]) := by rw [hs1]; exact At.hit
  by_cases hk : n ≤ base ∨ n - base > sent
  · have hy : ackS ⟨base, sent, q, clock⟩ n = ⟨base, sent, q, clock⟩ := if_pos hk
    rw [hy]
    rw [hs1] at I1 PN PN1
    by_cases hk2 : n ≤ base
    all_goals (repeat' (first | (apply Ab.K.ev; exact ev_) | (apply Ab.K.aops; first | (apply Xg.s; constructor) | apply Ab.S.guardG) | (apply Ab.K.aop; first | (first | (apply Ab.O.boxA N; (case hx => exact ev_); (case hid => exact frees_)) | (apply Ab.O.allocA (N + 1); (case hid => exact frees_); (case hp => rfl))) | (apply Og.s; constructor)) | (apply Ab.K.gk; first | (apply Xg.s; constructor) | (apply Ab.gY; case hw => assumption) | (apply Ab.gNT; case hw => assumption) | (apply Ab.gNF; case hw => assumption) | ((first | apply Ab.gD | apply Ab.gDN); all_goals (intro _ _; (first | contradiction | (exfalso; omega) | skip)))) | (apply Ab.K.awp; first | (apply Xg.s; constructor)) | (apply Ab.K.at_; exact at_) | (apply Ab.K.acall; first | assumption | fail) | (apply Ab.Rg.mk; omega) | (apply Ab.Lt.mk; first | decide | (simp; done) | (simp; omega) | fail) | (apply Ab.Get.mk; first | rfl | fail) | (apply Ab.Nm.mk; first | exact nrm_) | (apply Xg.s; constructor) | (apply Ab.asm; assumption) | rfl | infer_instance | decide))
    all_goals apply RetE.puR (b := b)
    case I => (repeat' (first | assumption | (apply Ab.Inv.boxP; (case p => (repeat' (first | assumption | apply Ab.Prv.set))))))
    case I => (repeat' (first | assumption | (apply Ab.Inv.boxP; (case p => (repeat' (first | assumption | apply Ab.Prv.set))))))
    case he => exact evr_
    case he => exact evr_
    case hg => rfl
    case hg => rfl
    case hq => exact (R1.mk ⟨_, rfl, h⟩).1
    case hq => exact (R1.mk ⟨_, rfl, h⟩).1
    all_goals exact (R1.mk (y := ⟨base, sent, q, clock⟩) ⟨_, rfl, h⟩).2
  · have hy : ackS ⟨base, sent, q, clock⟩ n = ⟨n, sent - (n - base), q.drop (n - base).toNat, if sent - (n - base) = 0 then 0 else 4⟩ := if_neg hk
    rw [hy]
    clear hy
    obtain ⟨m, hm2⟩ : ∃ m : Nat, n - base = m := ⟨(n - base).toNat, by omega⟩
    rw [hm2, Int.toNat_natCast]
    (repeat' (first | (apply Ab.K.ev; exact ev_) | (apply Ab.K.aops; first | (apply Xg.s; constructor) | apply Ab.S.guardG) | (apply Ab.K.aop; first | (first | (apply Ab.O.boxA N; (case hx => exact ev_); (case hid => exact frees_)) | (apply Ab.O.allocA (N + 1); (case hid => exact frees_); (case hp => rfl))) | (apply Og.s; constructor)) | (apply Ab.K.gk; first | (apply Xg.s; constructor) | (apply Ab.gY; case hw => assumption) | (apply Ab.gNT; case hw => assumption) | (apply Ab.gNF; case hw => assumption) | ((first | apply Ab.gD | apply Ab.gDN); all_goals (intro _ _; (first | contradiction | (exfalso; omega) | skip)))) | (apply Ab.K.awp; first | (apply Xg.s; constructor)) | (apply Ab.K.at_; exact at_) | (apply Ab.K.acall; first | assumption | fail) | (apply Ab.Rg.mk; omega) | (apply Ab.Lt.mk; first | decide | (simp; done) | (simp; omega) | fail) | (apply Ab.Get.mk; first | rfl | fail) | (apply Ab.Nm.mk; first | exact nrm_) | (apply Xg.s; constructor) | (apply Ab.asm; assumption) | rfl | infer_instance | decide))
    rw [← hs1]
    refine AWp.loop (fun kk tm s2 => ∃ (i : Nat) (clk : Int) (u : Value), Ev tm (.tmp 1) (.int .i64 n) ∧ Ev tm (.tmp 2) (.pointer (some ⟨N, 0, none⟩)) ∧ Ev tm (.tmp 4) (.pointer (some ⟨N + 1, 0, none⟩)) ∧ At s2 N (.cells true 1 [.int .i64 (base + i), .int .i64 (sent - i), u, .int .i64 clk]) ∧ At s2 (N + 1) (.cells true 1 [.int .i64 0, .int .i64 0, .slice none 0 0, .int .i64 0]) ∧ Inv s b s2 b ∧ Prv s s2 b N ∧ Prv s s2 b (N + 1) ∧ Qt b u (q.drop i) ∧ (i ≠ 0 → clk = 4) ∧ i ≤ m ∧ kk = m - i) m ?_ ?_
    · exact ⟨0, clock, _, by exact ev_, by exact ev_, by exact ev_, by rw [show base + ((0 : Nat) : Int) = base by omega, show sent - ((0 : Nat) : Int) = sent by omega]; exact aN, aN1, I1, PN, PN1, by rw [List.drop_zero]; exact h, fun e => absurd rfl e, by omega, rfl⟩
    clear I1 PN PN1 aN aN1 hs1
    rintro kk tm s2 ⟨i, clk, u, e1, e2, e4, aN, aN1, I1, PN, PN1, hu, hclk, hi, hkk⟩
    by_cases hin : i < m
    · have hdl2 : (q.drop i).length = q.length - i := List.length_drop
      have hdl : (q.drop i).length ≠ 0 := by omega
      rcases hu.open_ with ⟨_, e⟩ | ⟨o, off, c, sp, rw', cs, rfl, hcc, ha, hx⟩
      · exact absurd (by rw [e]; rfl) hdl
      have ao := I1.sub.at_ ha
      have hc1 := hu.cut 1 ((q.drop i).length - 1) (by omega) sp (c - 1) (by omega)
      rw [List.take_of_length_le (by simp only [List.length_drop]; omega), List.drop_drop] at hc1
      have hoN : o ≠ N := fun e => by subst e; have h2 := PN.b; rw [ha.eq] at h2; cases h2
      (repeat' (first | (apply Ab.K.ev; exact ev_) | (apply Ab.K.aops; first | (apply Xg.s; constructor) | apply Ab.S.guardG) | (apply Ab.K.aop; first | (apply Og.s; constructor)) | (apply Ab.K.gk; first | (apply Xg.s; constructor) | (apply Ab.gY; case hw => assumption) | (apply Ab.gNT; case hw => assumption) | (apply Ab.gNF; case hw => assumption) | ((first | apply Ab.gD | apply Ab.gDN); all_goals (intro _ _; (first | contradiction | (exfalso; omega) | skip)))) | (apply Ab.K.awp; first | (apply Xg.s; constructor)) | (apply Ab.K.at_; exact at_) | (apply Ab.K.acall; first | assumption | fail) | (apply Ab.Rg.mk; omega) | (apply Ab.Lt.mk; first | decide | (simp; done) | (simp; omega) | fail) | (apply Ab.Get.mk; first | rfl | fail) | (apply Ab.Nm.mk; first | exact nrm_) | (apply Xg.s; constructor) | (apply Ab.asm; assumption) | rfl | infer_instance | decide))
      refine X.roundN (m - (i + 1)) (by omega) ⟨i + 1, 4, _, by exact ev_, by exact ev_, by exact ev_, ?_, by exact at_, by (repeat' (first | assumption | (apply Ab.Inv.boxP; (case p => (repeat' (first | assumption | apply Ab.Prv.set)))))), by (repeat' (first | assumption | apply Ab.Prv.set)), by (repeat' (first | assumption | apply Ab.Prv.set)), hc1, fun _ => rfl, by omega, rfl⟩
      rw [show base + ((i + 1 : Nat) : Int) = base + i + 1 by omega, show sent - ((i + 1 : Nat) : Int) = sent - i - 1 by omega]
      exact At.hit
    · have hie : i = m := by omega
      subst hie
      obtain rfl := hclk (by omega)
      by_cases h0 : sent - i = 0
      case' pos => rw [if_pos h0]
      case' neg => rw [if_neg h0]
      all_goals (repeat' (first | (apply Ab.K.ev; exact ev_) | (apply Ab.K.aops; first | (apply Xg.s; constructor) | apply Ab.S.guardG) | (apply Ab.K.aop; first | (apply Og.s; constructor)) | (apply Ab.K.gk; first | (apply Xg.s; constructor) | (apply Ab.gY; case hw => assumption) | (apply Ab.gNT; case hw => assumption) | (apply Ab.gNF; case hw => assumption) | ((first | apply Ab.gD | apply Ab.gDN); all_goals (intro _ _; (first | contradiction | (exfalso; omega) | skip)))) | (apply Ab.K.awp; first | (apply Xg.s; constructor)) | (apply Ab.K.at_; exact at_) | (apply Ab.K.acall; first | assumption | fail) | (apply Ab.Rg.mk; omega) | (apply Ab.Lt.mk; first | decide | (simp; done) | (simp; omega) | fail) | (apply Ab.Get.mk; first | rfl | fail) | (apply Ab.Nm.mk; first | exact nrm_) | (apply Xg.s; constructor) | (apply Ab.asm; assumption) | rfl | infer_instance | decide))
      all_goals apply RetE.puR (b := b)
      case I => (repeat' (first | assumption | (apply Ab.Inv.boxP; (case p => (repeat' (first | assumption | apply Ab.Prv.set))))))
      case I => (repeat' (first | assumption | (apply Ab.Inv.boxP; (case p => (repeat' (first | assumption | apply Ab.Prv.set))))))
      case he => exact evr_
      case he => exact evr_
      case hg => rfl
      case hg => rfl
      case hq => rw [show n = base + i by omega]; exact (R1.mk ⟨_, rfl, hu⟩).1
      case hq => rw [show n = base + i by omega]; exact (R1.mk ⟨_, rfl, hu⟩).1
      · exact (R1.mk (y := ⟨base + i, sent - i, q.drop i, _⟩) ⟨_, rfl, hu⟩).2
      · exact (R1.mk (y := ⟨base + i, sent - i, q.drop i, _⟩) ⟨_, rfl, hu⟩).2
end Go.Proofs.Ytoiplbackllgfaa
