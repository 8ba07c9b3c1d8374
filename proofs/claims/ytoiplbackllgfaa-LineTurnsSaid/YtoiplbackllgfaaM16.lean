/- texts of this claim, one behind the other: LT, LZ, MA. -/
import Derived.Test.YtoiplbackllgfaaM13
import Derived.Test.YtoiplbackllgfaaM14
import Derived.Test.YtoiplbackllgfaaM15

/- lines: news that are alike, by the document; what is refused. -/
namespace Go.Proofs.Ytoiplbackllgfaa
set_option linter.unusedVariables false
set_option linter.unusedSimpArgs false
set_option linter.unusedSectionVars false
open Go.RowKit Ab HP
attribute [local irreducible] AOps AOpsD AOpsP QStep NX AOp AWp put nargs AHeap.set At Free ACall ACallE thenQ blockQ roundQ RetQ RetE Src Gr
theorem bytes49 {s : AHeap} {v w : Value} {q r : List (List Int)} (h : Qt s v q) (k : Qt s w r) (hq : q.length ≤ 1000000000) (hr : r.length ≤ 1000000000) :
    ACall Try.prog 49 [v, w] s (.bool (decide (q = r))) s := by
  refine ACall.make Try.func49 rfl (by kernel_rfl) (by decide) rfl (fun N hN0 => ?_)
  obtain ⟨A, cap, rfl, hcap⟩ := h.isl
  obtain ⟨B, cap2, rfl, hcap2⟩ := k.isl
  by_cases hl : q.length = r.length
  case neg =>
    rw [decide_eq_false (fun e => hl (by rw [e]))]
    (repeat' (first | (apply Ab.K.ev; exact ev_) | (apply Ab.K.aops; first | (apply Xg.s; constructor) | apply Ab.S.guardG) | (apply Ab.K.aop; first | (apply Og.s; constructor)) | (apply Ab.K.gk; first | (apply Xg.s; constructor) | (apply Ab.gY; case hw => assumption) | (apply Ab.gNT; case hw => assumption) | (apply Ab.gNF; case hw => assumption) | ((first | apply Ab.gD | apply Ab.gDN); all_goals (intro _ _; (first | contradiction | (exfalso; omega) | skip)))) | (apply Ab.K.aopsD; first | (apply Ab.D.q0t; (case hw => rfl); (case hot => rfl)) | (apply Ab.D.w1t; (case hw => rfl); (case hot => rfl)) | (apply Ab.D.q0; (case hw => rfl); intro _ _) | (apply Ab.D.w1n; (case hw => rfl); intro _ _) | (apply Ab.D.w2n; (case hw => rfl); intro _ _) | (apply Xg.s; constructor) | fail | apply Ab.D.guardG) | (apply Ab.K.aopsP; first | apply Ab.Pd.nil | (apply Ab.Pd.q; (case hi => rfl)) | (apply Ab.Pd.z; (case hi => rfl)) | (apply Ab.Pd.zU; (case hi => rfl); (case hd => rfl); (case hb => (exact ev_; done))) | (apply Ab.Pd.zG; (case hi => rfl); (case hd => rfl)) | (apply Ab.Pd.st; (case hi => rfl)) | (apply Ab.Pd.qU; (case hi => rfl); (case hd => rfl); (case hb => (exact ev_; done))) | (apply Ab.Pd.qG; (case hi => rfl); (case hd => rfl)) | (apply Ab.Pd.stU; (case hi => rfl); (case hd => rfl); (case hb => (exact ev_; done))) | (apply Ab.Pd.stG; (case hi => rfl); (case hd => rfl))) | (apply Ab.Pd.qs; intro _ _) | (apply Ab.Pd.nxE; (case hE => rfl)) | (apply Ab.Pd.nxR; (case hr => (repeat' (first | exact Ab.Sub.del _ _ | assumption | (apply Ab.Sub.setI; (case hn => simp)) | (apply Ab.Sub.setF; (case hn => exact free_)) | exact (Ab.Sub.del _ _).trans (by assumption))))) | exact ⟨rfl, rfl⟩ | (apply Ab.K.awp; first | (apply AWp.schedS (id := 6) [(0, 2), (1, 2), (2, 2), (3, 1), (4, 1), (5, 2), (6, 2), (7, 2), (8, 1), (9, 1), (10, 0)] [10] [[], [], [0, 1], [0, 1, 2], [0, 1, 2, 3], [], [], [5, 6], [5, 6, 7], [5, 6, 7, 8], [0, 1, 2, 3, 4, 5, 6, 7, 8, 9]] [] (by kernel_rfl) (by kernel_rfl) (by kernel_rfl) rfl) | (apply Xg.s; constructor)) | (apply Ab.K.at_; exact at_) | (apply Ab.K.acall; first | assumption | fail) | (apply Ab.Rg.mk; omega) | (apply Ab.Lt.mk; first | decide | (simp; done) | (simp; omega) | fail) | (apply Ab.Get.mk; first | rfl | fail) | (apply Ab.Nm.mk; first | exact nrm_) | (apply Xg.s; constructor) | (apply Ab.asm; assumption) | rfl | infer_instance | decide))
    all_goals ((first | apply RetQ.ret | apply RetQ.normal); (case he => exact evr_); (case hg => rfl))
    · rfl
    · exact Keeps.self trivial
  (repeat' (first | (apply Ab.K.ev; exact ev_) | (apply Ab.K.aops; first | (apply Xg.s; constructor) | apply Ab.S.guardG) | (apply Ab.K.aop; first | (apply Og.s; constructor)) | (apply Ab.K.gk; first | (apply Xg.s; constructor) | (apply Ab.gY; case hw => assumption) | (apply Ab.gNT; case hw => assumption) | (apply Ab.gNF; case hw => assumption) | ((first | apply Ab.gD | apply Ab.gDN); all_goals (intro _ _; (first | contradiction | (exfalso; omega) | skip)))) | (apply Ab.K.aopsD; first | (apply Ab.D.q0t; (case hw => rfl); (case hot => rfl)) | (apply Ab.D.w1t; (case hw => rfl); (case hot => rfl)) | (apply Ab.D.q0; (case hw => rfl); intro _ _) | (apply Ab.D.w1n; (case hw => rfl); intro _ _) | (apply Ab.D.w2n; (case hw => rfl); intro _ _) | (apply Xg.s; constructor) | fail | apply Ab.D.guardG) | (apply Ab.K.aopsP; first | apply Ab.Pd.nil | (apply Ab.Pd.q; (case hi => rfl)) | (apply Ab.Pd.z; (case hi => rfl)) | (apply Ab.Pd.zU; (case hi => rfl); (case hd => rfl); (case hb => (exact ev_; done))) | (apply Ab.Pd.zG; (case hi => rfl); (case hd => rfl)) | (apply Ab.Pd.st; (case hi => rfl)) | (apply Ab.Pd.qU; (case hi => rfl); (case hd => rfl); (case hb => (exact ev_; done))) | (apply Ab.Pd.qG; (case hi => rfl); (case hd => rfl)) | (apply Ab.Pd.stU; (case hi => rfl); (case hd => rfl); (case hb => (exact ev_; done))) | (apply Ab.Pd.stG; (case hi => rfl); (case hd => rfl))) | (apply Ab.Pd.qs; intro _ _) | (apply Ab.Pd.nxE; (case hE => rfl)) | (apply Ab.Pd.nxR; (case hr => (repeat' (first | exact Ab.Sub.del _ _ | assumption | (apply Ab.Sub.setI; (case hn => simp)) | (apply Ab.Sub.setF; (case hn => exact free_)) | exact (Ab.Sub.del _ _).trans (by assumption))))) | exact ⟨rfl, rfl⟩ | (apply Ab.K.awp; first | (apply AWp.schedS (id := 6) [(0, 2), (1, 2), (2, 2), (3, 1), (4, 1), (5, 2), (6, 2), (7, 2), (8, 1), (9, 1), (10, 0)] [10] [[], [], [0, 1], [0, 1, 2], [0, 1, 2, 3], [], [], [5, 6], [5, 6, 7], [5, 6, 7, 8], [0, 1, 2, 3, 4, 5, 6, 7, 8, 9]] [] (by kernel_rfl) (by kernel_rfl) (by kernel_rfl) rfl) | (apply Xg.s; constructor)) | (apply Ab.K.at_; exact at_) | (apply Ab.K.acall; first | assumption | fail) | (apply Ab.Rg.mk; omega) | (apply Ab.Lt.mk; first | decide | (simp; done) | (simp; omega) | fail) | (apply Ab.Get.mk; first | rfl | fail) | (apply Ab.Nm.mk; first | exact nrm_) | (apply Xg.s; constructor) | (apply Ab.asm; assumption) | rfl | infer_instance | decide))
  refine AWp.loop (fun kk tm s1 => ∃ (i : Nat), Ev tm (.tmp 0) (.slice A q.length cap) ∧ Ev tm (.tmp 1) (.slice B r.length cap2) ∧ Ev tm (.tmp 5) (.int .i64 i) ∧ s1 = s ∧ q.take i = r.take i ∧ i ≤ q.length ∧ kk = q.length - i) q.length ?_ ?_
  · exact ⟨0, by exact ev_, by exact ev_, by exact ev_, rfl, rfl, by omega, rfl⟩
  rintro kk tm s1 ⟨i, e0, e1, e5, rfl, hnb, hi, hkk⟩
  by_cases hin : i < q.length
  · obtain ⟨x, hx⟩ : ∃ x, q[i]? = some x := ⟨_, List.getElem?_eq_getElem hin⟩
    obtain ⟨y, hy⟩ : ∃ y, r[i]? = some y := ⟨_, List.getElem?_eq_getElem (by omega)⟩
    have htk : q.take (i + 1) = q.take i ++ [x] := by rw [List.take_add_one, hx]; rfl
    have htk2 : r.take (i + 1) = r.take i ++ [y] := by rw [List.take_add_one, hy]; rfl
    obtain ⟨o, off, c, sp, rw', cs, u, e, _, ha, hg, hu⟩ := h.qelt hx
    obtain ⟨rfl, rfl⟩ : A = some ⟨o, off, sp⟩ ∧ cap = c := by injection e with e1 e2 e3; exact ⟨e1, e3⟩
    obtain ⟨o', off', c', sp', rw'', cs', u', e', _, ha', hg', hu'⟩ := k.qelt hy
    obtain ⟨rfl, rfl⟩ : B = some ⟨o', off', sp'⟩ ∧ cap2 = c' := by injection e' with e1 e2 e3; exact ⟨e1, e3⟩
    have hst := strOf_dec hu.byt hu'.byt
    have hub : ∀ t', Sub (Ab.del s1 []) t' → Bt t' u x := fun t' h => hu.bt (fun i c hc => h i c (by unfold Ab.del; rw [if_neg (by simp)]; exact hc))
    have hub' : ∀ t', Sub (Ab.del s1 []) t' → Bt t' u' y := fun t' h => hu'.bt (fun i c hc => h i c (by unfold Ab.del; rw [if_neg (by simp)]; exact hc))


    by_cases hb : x = y
    · replace hst : (!decide ((strOf x).data.toList = (strOf y).data.toList)) = false := by rw [hst, decide_eq_true hb]; rfl
      (repeat' (first | (apply Ab.K.ev; exact ev_) | (apply Ab.K.aops; first | (apply Xg.s; constructor) | apply Ab.S.guardG) | (apply Ab.K.aop; first | (first | (apply Ab.O.strB; (case hx => exact ev_); (case h => exact hub _ (by assumption))) | (apply Ab.O.strB; (case hx => exact ev_); (case h => exact hub' _ (by assumption)))) | (apply Ab.O.strNe; (case hx => exact ev_); (case hy => exact ev_); (case h => rw [hst])) | (apply Og.s; constructor)) | (apply Ab.K.gk; first | (apply Xg.s; constructor) | (apply Ab.gY; case hw => assumption) | (apply Ab.gNT; case hw => assumption) | (apply Ab.gNF; case hw => assumption) | ((first | apply Ab.gD | apply Ab.gDN); all_goals (intro _ _; (first | contradiction | (exfalso; omega) | skip)))) | (apply Ab.K.aopsD; first | (apply Ab.D.q0t; (case hw => rfl); (case hot => rfl)) | (apply Ab.D.w1t; (case hw => rfl); (case hot => rfl)) | (apply Ab.D.q0; (case hw => rfl); intro _ _) | (apply Ab.D.w1n; (case hw => rfl); intro _ _) | (apply Ab.D.w2n; (case hw => rfl); intro _ _) | (apply Xg.s; constructor) | fail | apply Ab.D.guardG) | (apply Ab.K.aopsP; first | apply Ab.Pd.nil | (apply Ab.Pd.q; (case hi => rfl)) | (apply Ab.Pd.z; (case hi => rfl)) | (apply Ab.Pd.zU; (case hi => rfl); (case hd => rfl); (case hb => (exact ev_; done))) | (apply Ab.Pd.zG; (case hi => rfl); (case hd => rfl)) | (apply Ab.Pd.st; (case hi => rfl)) | (apply Ab.Pd.qU; (case hi => rfl); (case hd => rfl); (case hb => (exact ev_; done))) | (apply Ab.Pd.qG; (case hi => rfl); (case hd => rfl)) | (apply Ab.Pd.stU; (case hi => rfl); (case hd => rfl); (case hb => (exact ev_; done))) | (apply Ab.Pd.stG; (case hi => rfl); (case hd => rfl))) | (apply Ab.Pd.qs; intro _ _) | (apply Ab.Pd.nxE; (case hE => rfl)) | (apply Ab.Pd.nxR; (case hr => (repeat' (first | exact Ab.Sub.del _ _ | assumption | (apply Ab.Sub.setI; (case hn => simp)) | (apply Ab.Sub.setF; (case hn => exact free_)) | exact (Ab.Sub.del _ _).trans (by assumption))))) | exact ⟨rfl, rfl⟩ | (apply Ab.K.awp; first | (apply AWp.schedS (id := 6) [(0, 2), (1, 2), (2, 2), (3, 1), (4, 1), (5, 2), (6, 2), (7, 2), (8, 1), (9, 1), (10, 0)] [10] [[], [], [0, 1], [0, 1, 2], [0, 1, 2, 3], [], [], [5, 6], [5, 6, 7], [5, 6, 7, 8], [0, 1, 2, 3, 4, 5, 6, 7, 8, 9]] [] (by kernel_rfl) (by kernel_rfl) (by kernel_rfl) rfl) | (apply Xg.s; constructor)) | (apply Ab.K.at_; exact at_) | (apply Ab.K.acall; first | assumption | fail) | (apply Ab.Rg.mk; omega) | (apply Ab.Lt.mk; first | decide | (simp; done) | (simp; omega) | fail) | (apply Ab.Get.mk; first | rfl | (first | rfl | (rw [Int.toNat_natCast, Nat.mul_one]; (first | exact hg | exact hg')) | (rw [Int.toNat_natCast]; (first | exact hg | exact hg')))) | (apply Ab.Nm.mk; first | exact nrm_) | (apply Xg.s; constructor) | (apply Ab.asm; assumption) | rfl | infer_instance | decide))
      exact X.roundN (q.length - (i + 1)) (by omega) ⟨i + 1, by exact ev_, by exact ev_, by exact ev_, rfl, by rw [htk, htk2, hnb, hb], by omega, by omega⟩
    · replace hst : (!decide ((strOf x).data.toList = (strOf y).data.toList)) = true := by rw [hst, decide_eq_false hb]; rfl
      rw [decide_eq_false (fun e : q = r => hb (by rw [e, hy] at hx; exact (Option.some.inj hx).symm))]
      (repeat' (first | (apply Ab.K.ev; exact ev_) | (apply Ab.K.aops; first | (apply Xg.s; constructor) | apply Ab.S.guardG) | (apply Ab.K.aop; first | (first | (apply Ab.O.strB; (case hx => exact ev_); (case h => exact hub _ (by assumption))) | (apply Ab.O.strB; (case hx => exact ev_); (case h => exact hub' _ (by assumption)))) | (apply Ab.O.strNe; (case hx => exact ev_); (case hy => exact ev_); (case h => rw [hst])) | (apply Og.s; constructor)) | (apply Ab.K.gk; first | (apply Xg.s; constructor) | (apply Ab.gY; case hw => assumption) | (apply Ab.gNT; case hw => assumption) | (apply Ab.gNF; case hw => assumption) | ((first | apply Ab.gD | apply Ab.gDN); all_goals (intro _ _; (first | contradiction | (exfalso; omega) | skip)))) | (apply Ab.K.aopsD; first | (apply Ab.D.q0t; (case hw => rfl); (case hot => rfl)) | (apply Ab.D.w1t; (case hw => rfl); (case hot => rfl)) | (apply Ab.D.q0; (case hw => rfl); intro _ _) | (apply Ab.D.w1n; (case hw => rfl); intro _ _) | (apply Ab.D.w2n; (case hw => rfl); intro _ _) | (apply Xg.s; constructor) | fail | apply Ab.D.guardG) | (apply Ab.K.aopsP; first | apply Ab.Pd.nil | (apply Ab.Pd.q; (case hi => rfl)) | (apply Ab.Pd.z; (case hi => rfl)) | (apply Ab.Pd.zU; (case hi => rfl); (case hd => rfl); (case hb => (exact ev_; done))) | (apply Ab.Pd.zG; (case hi => rfl); (case hd => rfl)) | (apply Ab.Pd.st; (case hi => rfl)) | (apply Ab.Pd.qU; (case hi => rfl); (case hd => rfl); (case hb => (exact ev_; done))) | (apply Ab.Pd.qG; (case hi => rfl); (case hd => rfl)) | (apply Ab.Pd.stU; (case hi => rfl); (case hd => rfl); (case hb => (exact ev_; done))) | (apply Ab.Pd.stG; (case hi => rfl); (case hd => rfl))) | (apply Ab.Pd.qs; intro _ _) | (apply Ab.Pd.nxE; (case hE => rfl)) | (apply Ab.Pd.nxR; (case hr => (repeat' (first | exact Ab.Sub.del _ _ | assumption | (apply Ab.Sub.setI; (case hn => simp)) | (apply Ab.Sub.setF; (case hn => exact free_)) | exact (Ab.Sub.del _ _).trans (by assumption))))) | exact ⟨rfl, rfl⟩ | (apply Ab.K.awp; first | (apply AWp.schedS (id := 6) [(0, 2), (1, 2), (2, 2), (3, 1), (4, 1), (5, 2), (6, 2), (7, 2), (8, 1), (9, 1), (10, 0)] [10] [[], [], [0, 1], [0, 1, 2], [0, 1, 2, 3], [], [], [5, 6], [5, 6, 7], [5, 6, 7, 8], [0, 1, 2, 3, 4, 5, 6, 7, 8, 9]] [] (by kernel_rfl) (by kernel_rfl) (by kernel_rfl) rfl) | (apply Xg.s; constructor)) | (apply Ab.K.at_; exact at_) | (apply Ab.K.acall; first | assumption | fail) | (apply Ab.Rg.mk; omega) | (apply Ab.Lt.mk; first | decide | (simp; done) | (simp; omega) | fail) | (apply Ab.Get.mk; first | rfl | (first | rfl | (rw [Int.toNat_natCast, Nat.mul_one]; (first | exact hg | exact hg')) | (rw [Int.toNat_natCast]; (first | exact hg | exact hg')))) | (apply Ab.Nm.mk; first | exact nrm_) | (apply Xg.s; constructor) | (apply Ab.asm; assumption) | rfl | infer_instance | decide))
      all_goals ((first | apply RetQ.ret | apply RetQ.normal); (case he => exact evr_); (case hg => rfl))
      all_goals first | rfl | exact Keeps.self trivial
  · obtain rfl : i = q.length := by omega
    rw [List.take_length, hl, List.take_length] at hnb
    rw [decide_eq_true hnb]

    (repeat' (first | (apply Ab.K.ev; exact ev_) | (apply Ab.K.aops; first | (apply Xg.s; constructor) | apply Ab.S.guardG) | (apply Ab.K.aop; first | (apply Og.s; constructor)) | (apply Ab.K.gk; first | (apply Xg.s; constructor) | (apply Ab.gY; case hw => assumption) | (apply Ab.gNT; case hw => assumption) | (apply Ab.gNF; case hw => assumption) | ((first | apply Ab.gD | apply Ab.gDN); all_goals (intro _ _; (first | contradiction | (exfalso; omega) | skip)))) | (apply Ab.K.aopsD; first | (apply Ab.D.q0t; (case hw => rfl); (case hot => rfl)) | (apply Ab.D.w1t; (case hw => rfl); (case hot => rfl)) | (apply Ab.D.q0; (case hw => rfl); intro _ _) | (apply Ab.D.w1n; (case hw => rfl); intro _ _) | (apply Ab.D.w2n; (case hw => rfl); intro _ _) | (apply Xg.s; constructor) | fail | apply Ab.D.guardG) | (apply Ab.K.aopsP; first | apply Ab.Pd.nil | (apply Ab.Pd.q; (case hi => rfl)) | (apply Ab.Pd.z; (case hi => rfl)) | (apply Ab.Pd.zU; (case hi => rfl); (case hd => rfl); (case hb => (exact ev_; done))) | (apply Ab.Pd.zG; (case hi => rfl); (case hd => rfl)) | (apply Ab.Pd.st; (case hi => rfl)) | (apply Ab.Pd.qU; (case hi => rfl); (case hd => rfl); (case hb => (exact ev_; done))) | (apply Ab.Pd.qG; (case hi => rfl); (case hd => rfl)) | (apply Ab.Pd.stU; (case hi => rfl); (case hd => rfl); (case hb => (exact ev_; done))) | (apply Ab.Pd.stG; (case hi => rfl); (case hd => rfl))) | (apply Ab.Pd.qs; intro _ _) | (apply Ab.Pd.nxE; (case hE => rfl)) | (apply Ab.Pd.nxR; (case hr => (repeat' (first | exact Ab.Sub.del _ _ | assumption | (apply Ab.Sub.setI; (case hn => simp)) | (apply Ab.Sub.setF; (case hn => exact free_)) | exact (Ab.Sub.del _ _).trans (by assumption))))) | exact ⟨rfl, rfl⟩ | (apply Ab.K.awp; first | (apply AWp.schedS (id := 6) [(0, 2), (1, 2), (2, 2), (3, 1), (4, 1), (5, 2), (6, 2), (7, 2), (8, 1), (9, 1), (10, 0)] [10] [[], [], [0, 1], [0, 1, 2], [0, 1, 2, 3], [], [], [5, 6], [5, 6, 7], [5, 6, 7, 8], [0, 1, 2, 3, 4, 5, 6, 7, 8, 9]] [] (by kernel_rfl) (by kernel_rfl) (by kernel_rfl) rfl) | (apply Xg.s; constructor)) | (apply Ab.K.at_; exact at_) | (apply Ab.K.acall; first | assumption | fail) | (apply Ab.Rg.mk; omega) | (apply Ab.Lt.mk; first | decide | (simp; done) | (simp; omega) | fail) | (apply Ab.Get.mk; first | rfl | (first | rfl | (rw [Int.toNat_natCast, Nat.mul_one]; (first | exact hg | exact hg')) | (rw [Int.toNat_natCast]; (first | exact hg | exact hg')))) | (apply Ab.Nm.mk; first | exact nrm_) | (apply Xg.s; constructor) | (apply Ab.asm; assumption) | rfl | infer_instance | decide))
    all_goals ((first | apply RetQ.ret | apply RetQ.normal); (case he => exact evr_); (case hg => rfl))
    · rfl
    · exact Keeps.self trivial
theorem Sl.felt {b : AHeap} {v : Value} {l : List Fm} (h : Sl b 5 (RF b) v l) {i : Nat} {x : Fm} (hi : l[i]? = some x) : ∃ o off c sp rw cs w, v = .slice (some ⟨o, off, sp⟩) l.length c ∧ l.length ≤ c ∧ At b o (.cells rw 5 cs) ∧ off + i * 5 + 5 ≤ cs.length ∧ (cs.drop (off + i * 5)).take 5 = [.int .i64 x.kind, .int .i64 x.ses, .int .i64 x.seq, .int .i64 x.ack, w] ∧ Bt b w x.pay := by
  obtain ⟨o, off, c, sp, rw', cs, e, hc, ha, hle, w, hw, hb⟩ := h.elt (by decide) hi
  exact ⟨o, off, c, sp, rw', cs, w, e, hc, ha, hle, hw, hb⟩
set_option maxRecDepth 100000 in
set_option maxHeartbeats 4000000 in
theorem news18' {s : AHeap} {vf vc wf wc : Value} {f g : List Fm} {q r : List (List Int)} {dn dn' : Bool} {ss ss' : Int} (hf : Sl s 5 (RF s) vf f) (hg : Sl s 5 (RF s) wf g) (hq : Qt s vc q) (hr : Qt s wc r) (z1 : f.length ≤ 1000000) (z2 : g.length ≤ 1000000) (z3 : q.length ≤ 1000000) (z4 : r.length ≤ 1000000) :
    ACall Try.prog 18 [.agg #[vf, vc, .bool dn, .int .i64 ss], .agg #[wf, wc, .bool dn', .int .i64 ss']] s (.bool (decide ((⟨f, q, dn, ss⟩ : Nw) = ⟨g, r, dn', ss'⟩))) s := by
  refine ACall.make Try.func18 rfl (by kernel_rfl) (by decide) rfl (fun N hN0 => ?_)
  have hT : Top N s := hN0
  obtain ⟨A, ca, rfl, _⟩ := hf.isl
  obtain ⟨B, cb, rfl, _⟩ := hg.isl
  obtain ⟨C, cc, rfl, _⟩ := hq.isl
  obtain ⟨D, cd, rfl, _⟩ := hr.isl
  obtain ⟨s1, hs1⟩ : ∃ s1 : AHeap, s1 = (s.set N (.cells true 1 [.slice A f.length ca, .slice C q.length cc, .bool dn, .int .i64 ss])).set (N + 1) (.cells true 1 [.slice B g.length cb, .slice D r.length cd, .bool dn', .int .i64 ss']) := ⟨_, rfl⟩
  have F1 : Fr s1 s [] := by rw [hs1]; exact Fr.new (hT.free (by omega)) (Fr.new (hT.free (Nat.le_refl _)) (Fr.refl _ _))
  have hS : Sub s s1 := fun i c hc => F1 i (by simp) c hc
  have aN : At s1 N (.cells true 1 [.slice A f.length ca, .slice C q.length cc, .bool dn, .int .i64 ss]) := by rw [hs1]; exact at_
  have aN1 : At s1 (N + 1) (.cells true 1 [.slice B g.length cb, .slice D r.length cd, .bool dn', .int .i64 ss']) := by rw [hs1]; exact At.hit
  have c49 := bytes49 (hq.sub datQ hS) (hr.sub datQ hS) (by omega) (by omega)

  by_cases h0 : ((dn = dn' ∧ ss = ss') ∧ f.length = g.length) ∧ q = r
  case neg =>
    rw [decide_eq_false (fun e : (⟨_, _, _, _⟩ : Nw) = _ => h0 (by simp only [Nw.mk.injEq] at e; obtain ⟨e1, e2, e3, e4⟩ := e; exact ⟨⟨⟨e3, e4⟩, by rw [e1]⟩, e2⟩))]
    by_cases h1 : dn = dn'
    case' pos =>
      by_cases h2 : ss = ss'
      case' pos =>
        by_cases h3 : f.length = g.length
        case' pos => rw [decide_eq_false (fun e => h0 ⟨⟨⟨h1, h2⟩, h3⟩, e⟩)] at c49
    all_goals cases dn <;> cases dn' <;> simp only [Bool.false_eq_true, Bool.true_eq_false, not_true_eq_false, reduceCtorEq] at h1
    all_goals (repeat' (first | (apply Ab.K.ev; exact ev_) | (apply Ab.K.aops; first | (apply Xg.s; constructor) | apply Ab.S.guardG) | (apply Ab.K.aop; first | (first | (apply Ab.O.boxA N; (case hx => exact ev_); (case hid => exact frees_)) | (apply Ab.O.boxA (N + 1); (case hx => exact ev_); (case hid => exact frees_))) | (apply Og.s; constructor)) | (apply Ab.K.gk; first | (apply Xg.s; constructor) | (apply Ab.gY; case hw => assumption) | (apply Ab.gNT; case hw => assumption) | (apply Ab.gNF; case hw => assumption) | ((first | apply Ab.gD | apply Ab.gDN); all_goals (intro _ _; (first | contradiction | (exfalso; omega) | skip)))) | (apply Ab.K.aopsD; first | (apply Ab.D.q0t; (case hw => rfl); (case hot => rfl)) | (apply Ab.D.w1t; (case hw => rfl); (case hot => rfl)) | (apply Ab.D.q0; (case hw => rfl); intro _ _) | (apply Ab.D.w1n; (case hw => rfl); intro _ _) | (apply Ab.D.w2n; (case hw => rfl); intro _ _) | (apply Xg.s; constructor) | fail | apply Ab.D.guardG) | (apply Ab.K.aopsP; first | apply Ab.Pd.nil | (apply Ab.Pd.q; (case hi => rfl)) | (apply Ab.Pd.z; (case hi => rfl)) | (apply Ab.Pd.zU; (case hi => rfl); (case hd => rfl); (case hb => (exact ev_; done))) | (apply Ab.Pd.zG; (case hi => rfl); (case hd => rfl)) | (apply Ab.Pd.st; (case hi => rfl)) | (apply Ab.Pd.qU; (case hi => rfl); (case hd => rfl); (case hb => (exact ev_; done))) | (apply Ab.Pd.qG; (case hi => rfl); (case hd => rfl)) | (apply Ab.Pd.stU; (case hi => rfl); (case hd => rfl); (case hb => (exact ev_; done))) | (apply Ab.Pd.stG; (case hi => rfl); (case hd => rfl))) | (apply Ab.Pd.qs; intro _ _) | (apply Ab.Pd.nxE; (case hE => rfl)) | (apply Ab.Pd.nxR; (case hr => (repeat' (first | exact Ab.Sub.del _ _ | assumption | (apply Ab.Sub.setI; (case hn => simp)) | (apply Ab.Sub.setF; (case hn => exact free_)) | exact (Ab.Sub.del _ _).trans (by assumption))))) | exact ⟨rfl, rfl⟩ | (apply Ab.K.awp; first | (apply AWp.schedS (id := 6) [(0, 2), (1, 1), (2, 2), (3, 2), (4, 1), (5, 2), (6, 1), (7, 2), (8, 2), (9, 1), (10, 0), (11, 0)] [10, 11] [[], [0], [], [0, 1, 2], [0, 1, 2, 3], [], [5], [], [5, 6, 7], [5, 6, 7, 8], [0, 1, 2, 3, 4, 5, 6, 7, 8, 9], [0, 1, 2, 3, 4, 5, 6, 7, 8, 9, 10]] [] (by kernel_rfl) (by kernel_rfl) (by kernel_rfl) rfl) | (apply Xg.s; constructor)) | (apply Ab.K.at_; exact at_) | (apply Ab.K.acall; first | assumption | first | exact c49 | (rw [← hs1]; exact c49)) | (apply Ab.Rg.mk; omega) | (apply Ab.Lt.mk; first | decide | (simp; done) | (simp; omega) | fail) | (apply Ab.Get.mk; first | rfl | (first | rfl | (rw [Int.toNat_natCast, Nat.mul_one]; (first | exact hg | exact hg')) | (rw [Int.toNat_natCast]; (first | exact hg | exact hg')))) | (apply Ab.Nm.mk; first | exact nrm_) | (apply Xg.s; constructor) | (apply Ab.asm; assumption) | rfl | infer_instance | decide))
    all_goals ((first | apply RetQ.ret | apply RetQ.normal); (case he => exact evr_); (case hg => rfl))
    all_goals first | rfl | exact Keeps.fr F1 (plR.nm rfl) | (rw [hs1] at F1; exact Keeps.fr F1 (plR.nm rfl))
  obtain ⟨⟨⟨rfl, rfl⟩, hl⟩, rfl⟩ := h0
  rw [decide_eq_true rfl] at c49
  rw [show decide ((⟨f, q, dn, ss⟩ : Nw) = ⟨g, q, dn, ss⟩) = decide (f = g) from decide_eq_decide.2 (by simp only [Nw.mk.injEq, and_true])]
  have hbb : (!(dn == dn)) = false := by cases dn <;> rfl
  (repeat' (first | (apply Ab.K.ev; exact ev_) | (apply Ab.K.aops; first | (apply Xg.s; constructor) | apply Ab.S.guardG) | (apply Ab.K.aop; first | (first | (apply Ab.O.boxA N; (case hx => exact ev_); (case hid => exact frees_)) | (apply Ab.O.boxA (N + 1); (case hx => exact ev_); (case hid => exact frees_))) | (apply Ab.O.boolNe; (case hx => exact ev_); (case hy => exact ev_); (case h => rw [hbb])) | (apply Og.s; constructor)) | (apply Ab.K.gk; first | (apply Xg.s; constructor) | (apply Ab.gY; case hw => assumption) | (apply Ab.gNT; case hw => assumption) | (apply Ab.gNF; case hw => assumption) | ((first | apply Ab.gD | apply Ab.gDN); all_goals (intro _ _; (first | contradiction | (exfalso; omega) | skip)))) | (apply Ab.K.aopsD; first | (apply Ab.D.q0t; (case hw => rfl); (case hot => rfl)) | (apply Ab.D.w1t; (case hw => rfl); (case hot => rfl)) | (apply Ab.D.q0; (case hw => rfl); intro _ _) | (apply Ab.D.w1n; (case hw => rfl); intro _ _) | (apply Ab.D.w2n; (case hw => rfl); intro _ _) | (apply Xg.s; constructor) | fail | apply Ab.D.guardG) | (apply Ab.K.aopsP; first | apply Ab.Pd.nil | (apply Ab.Pd.q; (case hi => rfl)) | (apply Ab.Pd.z; (case hi => rfl)) | (apply Ab.Pd.zU; (case hi => rfl); (case hd => rfl); (case hb => (exact ev_; done))) | (apply Ab.Pd.zG; (case hi => rfl); (case hd => rfl)) | (apply Ab.Pd.st; (case hi => rfl)) | (apply Ab.Pd.qU; (case hi => rfl); (case hd => rfl); (case hb => (exact ev_; done))) | (apply Ab.Pd.qG; (case hi => rfl); (case hd => rfl)) | (apply Ab.Pd.stU; (case hi => rfl); (case hd => rfl); (case hb => (exact ev_; done))) | (apply Ab.Pd.stG; (case hi => rfl); (case hd => rfl))) | (apply Ab.Pd.qs; intro _ _) | (apply Ab.Pd.nxE; (case hE => rfl)) | (apply Ab.Pd.nxR; (case hr => (repeat' (first | exact Ab.Sub.del _ _ | assumption | (apply Ab.Sub.setI; (case hn => simp)) | (apply Ab.Sub.setF; (case hn => exact free_)) | exact (Ab.Sub.del _ _).trans (by assumption))))) | exact ⟨rfl, rfl⟩ | (apply Ab.K.awp; first | (apply AWp.schedS (id := 6) [(0, 2), (1, 1), (2, 2), (3, 2), (4, 1), (5, 2), (6, 1), (7, 2), (8, 2), (9, 1), (10, 0), (11, 0)] [10, 11] [[], [0], [], [0, 1, 2], [0, 1, 2, 3], [], [5], [], [5, 6, 7], [5, 6, 7, 8], [0, 1, 2, 3, 4, 5, 6, 7, 8, 9], [0, 1, 2, 3, 4, 5, 6, 7, 8, 9, 10]] [] (by kernel_rfl) (by kernel_rfl) (by kernel_rfl) rfl) | (apply Xg.s; constructor)) | (apply Ab.K.at_; exact at_) | (apply Ab.K.acall; first | assumption | first | exact c49 | (rw [← hs1]; exact c49)) | (apply Ab.Rg.mk; omega) | (apply Ab.Lt.mk; first | decide | (simp; done) | (simp; omega) | fail) | (apply Ab.Get.mk; first | rfl | (first | rfl | (rw [Int.toNat_natCast, Nat.mul_one]; (first | exact hg | exact hg')) | (rw [Int.toNat_natCast]; (first | exact hg | exact hg')))) | (apply Ab.Nm.mk; first | exact nrm_) | (apply Xg.s; constructor) | (apply Ab.asm; assumption) | rfl | infer_instance | decide))
  refine AWp.loop (fun kk tm s2 => ∃ (i : Nat), Ev tm (.tmp 2) (.pointer (some ⟨N, 0, none⟩)) ∧ Ev tm (.tmp 3) (.pointer (some ⟨N + 1, 0, none⟩)) ∧ Ev tm (.tmp 5) (.int .i64 i) ∧ s2 = s1 ∧ f.take i = g.take i ∧ i ≤ f.length ∧ kk = f.length - i) f.length ?_ ?_
  · exact ⟨0, by exact ev_, by exact ev_, by exact ev_, rfl, rfl, by omega, rfl⟩
  rintro kk tm s2 ⟨i, e2, e3, e5, rfl, hnb, hi, hkk⟩
  clear hs1
  by_cases hin : i < f.length
  · obtain ⟨x, hx⟩ : ∃ x, f[i]? = some x := ⟨_, List.getElem?_eq_getElem hin⟩
    obtain ⟨y, hy⟩ : ∃ y, g[i]? = some y := ⟨_, List.getElem?_eq_getElem (by omega)⟩
    have htk : f.take (i + 1) = f.take i ++ [x] := by rw [List.take_add_one, hx]; rfl
    have htk2 : g.take (i + 1) = g.take i ++ [y] := by rw [List.take_add_one, hy]; rfl
    obtain ⟨o, off, c, sp, rw', cs, u, e, _, ha, hgl, hgt, hu⟩ := Sl.felt hf hx
    obtain ⟨rfl, rfl⟩ : A = some ⟨o, off, sp⟩ ∧ ca = c := by injection e with e1 e2 e3; exact ⟨e1, e3⟩
    obtain ⟨o', off', c', sp', rw'', cs', u', e', _, ha', hgl', hgt', hu'⟩ := Sl.felt hg hy
    obtain ⟨rfl, rfl⟩ : B = some ⟨o', off', sp'⟩ ∧ cb = c' := by injection e' with e1 e2 e3; exact ⟨e1, e3⟩
    have a1 := hS.at_ ha
    have a1' := hS.at_ ha'
    have cs50 := same50 (s := s2) (x := x) (y := y) ⟨u, rfl, hu.bt hS⟩ ⟨u', rfl, hu'.bt hS⟩
    have hx5 : (cs.drop (off + (i : Int).toNat * 5)).take 5 = [.int .i64 x.kind, .int .i64 x.ses, .int .i64 x.seq, .int .i64 x.ack, u] := by rw [Int.toNat_natCast]; exact hgt
    have hy5 : (cs'.drop (off' + (i : Int).toNat * 5)).take 5 = [.int .i64 y.kind, .int .i64 y.ses, .int .i64 y.seq, .int .i64 y.ack, u'] := by rw [Int.toNat_natCast]; exact hgt'


    by_cases hb : x = y
    · rw [decide_eq_true hb] at cs50
      (repeat' (first | (apply Ab.K.ev; exact ev_) | (apply Ab.K.aops; first | (apply Xg.s; constructor) | apply Ab.S.guardG) | (apply Ab.K.aop; first | (apply Og.s; constructor)) | (apply Ab.K.gk; first | (apply Xg.s; constructor) | (apply Ab.gY; case hw => assumption) | (apply Ab.gNT; case hw => assumption) | (apply Ab.gNF; case hw => assumption) | ((first | apply Ab.gD | apply Ab.gDN); all_goals (intro _ _; (first | contradiction | (exfalso; omega) | skip)))) | (apply Ab.K.aopsD; first | (apply Ab.D.q0t; (case hw => rfl); (case hot => rfl)) | (apply Ab.D.w1t; (case hw => rfl); (case hot => rfl)) | (apply Ab.D.q0; (case hw => rfl); intro _ _) | (apply Ab.D.w1n; (case hw => rfl); intro _ _) | (apply Ab.D.w2n; (case hw => rfl); intro _ _) | (apply Xg.s; constructor) | fail | apply Ab.D.guardG) | (apply Ab.K.aopsP; first | apply Ab.Pd.nil | (apply Ab.Pd.q; (case hi => rfl)) | (apply Ab.Pd.z; (case hi => rfl)) | (apply Ab.Pd.zU; (case hi => rfl); (case hd => rfl); (case hb => (exact ev_; done))) | (apply Ab.Pd.zG; (case hi => rfl); (case hd => rfl)) | (apply Ab.Pd.st; (case hi => rfl)) | (apply Ab.Pd.qU; (case hi => rfl); (case hd => rfl); (case hb => (exact ev_; done))) | (apply Ab.Pd.qG; (case hi => rfl); (case hd => rfl)) | (apply Ab.Pd.stU; (case hi => rfl); (case hd => rfl); (case hb => (exact ev_; done))) | (apply Ab.Pd.stG; (case hi => rfl); (case hd => rfl))) | (apply Ab.Pd.qs; intro _ _) | (apply Ab.Pd.nxE; (case hE => rfl)) | (apply Ab.Pd.nxR; (case hr => (repeat' (first | exact Ab.Sub.del _ _ | assumption | (apply Ab.Sub.setI; (case hn => simp)) | (apply Ab.Sub.setF; (case hn => exact free_)) | exact (Ab.Sub.del _ _).trans (by assumption))))) | exact ⟨rfl, rfl⟩ | (apply Ab.K.awp; first | (apply AWp.schedS (id := 6) [(0, 2), (1, 1), (2, 2), (3, 2), (4, 1), (5, 2), (6, 1), (7, 2), (8, 2), (9, 1), (10, 0), (11, 0)] [10, 11] [[], [0], [], [0, 1, 2], [0, 1, 2, 3], [], [5], [], [5, 6, 7], [5, 6, 7, 8], [0, 1, 2, 3, 4, 5, 6, 7, 8, 9], [0, 1, 2, 3, 4, 5, 6, 7, 8, 9, 10]] [] (by kernel_rfl) (by kernel_rfl) (by kernel_rfl) rfl) | (apply Xg.s; constructor)) | (apply Ab.K.at_; exact at_) | (apply Ab.K.acall; first | assumption | exact cs50) | (apply Ab.Rg.mk; omega) | (apply Ab.Lt.mk; first | decide | (simp; done) | (simp; omega) | (rw [Int.toNat_natCast]; show _ + 5 < _; omega)) | (apply Ab.Get.mk; first | rfl | (first | rfl | (rw [Int.toNat_natCast, Nat.mul_one]; (first | exact hg | exact hg')) | (rw [Int.toNat_natCast]; (first | exact hg | exact hg')))) | (apply Ab.Nm.mk; first | first | exact hx5 | exact hy5 | exact nrm_) | (apply Xg.s; constructor) | (apply Ab.asm; assumption) | rfl | infer_instance | decide))
      exact X.roundN (f.length - (i + 1)) (by omega) ⟨i + 1, by exact ev_, by exact ev_, by exact ev_, rfl, by rw [htk, htk2, hnb, hb], by omega, by omega⟩
    · rw [decide_eq_false hb] at cs50
      rw [decide_eq_false (fun e : f = g => hb (by rw [e, hy] at hx; exact (Option.some.inj hx).symm))]
      (repeat' (first | (apply Ab.K.ev; exact ev_) | (apply Ab.K.aops; first | (apply Xg.s; constructor) | apply Ab.S.guardG) | (apply Ab.K.aop; first | (apply Og.s; constructor)) | (apply Ab.K.gk; first | (apply Xg.s; constructor) | (apply Ab.gY; case hw => assumption) | (apply Ab.gNT; case hw => assumption) | (apply Ab.gNF; case hw => assumption) | ((first | apply Ab.gD | apply Ab.gDN); all_goals (intro _ _; (first | contradiction | (exfalso; omega) | skip)))) | (apply Ab.K.aopsD; first | (apply Ab.D.q0t; (case hw => rfl); (case hot => rfl)) | (apply Ab.D.w1t; (case hw => rfl); (case hot => rfl)) | (apply Ab.D.q0; (case hw => rfl); intro _ _) | (apply Ab.D.w1n; (case hw => rfl); intro _ _) | (apply Ab.D.w2n; (case hw => rfl); intro _ _) | (apply Xg.s; constructor) | fail | apply Ab.D.guardG) | (apply Ab.K.aopsP; first | apply Ab.Pd.nil | (apply Ab.Pd.q; (case hi => rfl)) | (apply Ab.Pd.z; (case hi => rfl)) | (apply Ab.Pd.zU; (case hi => rfl); (case hd => rfl); (case hb => (exact ev_; done))) | (apply Ab.Pd.zG; (case hi => rfl); (case hd => rfl)) | (apply Ab.Pd.st; (case hi => rfl)) | (apply Ab.Pd.qU; (case hi => rfl); (case hd => rfl); (case hb => (exact ev_; done))) | (apply Ab.Pd.qG; (case hi => rfl); (case hd => rfl)) | (apply Ab.Pd.stU; (case hi => rfl); (case hd => rfl); (case hb => (exact ev_; done))) | (apply Ab.Pd.stG; (case hi => rfl); (case hd => rfl))) | (apply Ab.Pd.qs; intro _ _) | (apply Ab.Pd.nxE; (case hE => rfl)) | (apply Ab.Pd.nxR; (case hr => (repeat' (first | exact Ab.Sub.del _ _ | assumption | (apply Ab.Sub.setI; (case hn => simp)) | (apply Ab.Sub.setF; (case hn => exact free_)) | exact (Ab.Sub.del _ _).trans (by assumption))))) | exact ⟨rfl, rfl⟩ | (apply Ab.K.awp; first | (apply AWp.schedS (id := 6) [(0, 2), (1, 1), (2, 2), (3, 2), (4, 1), (5, 2), (6, 1), (7, 2), (8, 2), (9, 1), (10, 0), (11, 0)] [10, 11] [[], [0], [], [0, 1, 2], [0, 1, 2, 3], [], [5], [], [5, 6, 7], [5, 6, 7, 8], [0, 1, 2, 3, 4, 5, 6, 7, 8, 9], [0, 1, 2, 3, 4, 5, 6, 7, 8, 9, 10]] [] (by kernel_rfl) (by kernel_rfl) (by kernel_rfl) rfl) | (apply Xg.s; constructor)) | (apply Ab.K.at_; exact at_) | (apply Ab.K.acall; first | assumption | exact cs50) | (apply Ab.Rg.mk; omega) | (apply Ab.Lt.mk; first | decide | (simp; done) | (simp; omega) | (rw [Int.toNat_natCast]; show _ + 5 < _; omega)) | (apply Ab.Get.mk; first | rfl | (first | rfl | (rw [Int.toNat_natCast, Nat.mul_one]; (first | exact hg | exact hg')) | (rw [Int.toNat_natCast]; (first | exact hg | exact hg')))) | (apply Ab.Nm.mk; first | first | exact hx5 | exact hy5 | exact nrm_) | (apply Xg.s; constructor) | (apply Ab.asm; assumption) | rfl | infer_instance | decide))
      all_goals ((first | apply RetQ.ret | apply RetQ.normal); (case he => exact evr_); (case hg => rfl))
      all_goals first | rfl | exact Keeps.fr F1 (plR.nm rfl)
  · obtain rfl : i = f.length := by omega
    rw [List.take_length, hl, List.take_length] at hnb
    rw [decide_eq_true hnb]


    (repeat' (first | (apply Ab.K.ev; exact ev_) | (apply Ab.K.aops; first | (apply Xg.s; constructor) | apply Ab.S.guardG) | (apply Ab.K.aop; first | (apply Og.s; constructor)) | (apply Ab.K.gk; first | (apply Xg.s; constructor) | (apply Ab.gY; case hw => assumption) | (apply Ab.gNT; case hw => assumption) | (apply Ab.gNF; case hw => assumption) | ((first | apply Ab.gD | apply Ab.gDN); all_goals (intro _ _; (first | contradiction | (exfalso; omega) | skip)))) | (apply Ab.K.aopsD; first | (apply Ab.D.q0t; (case hw => rfl); (case hot => rfl)) | (apply Ab.D.w1t; (case hw => rfl); (case hot => rfl)) | (apply Ab.D.q0; (case hw => rfl); intro _ _) | (apply Ab.D.w1n; (case hw => rfl); intro _ _) | (apply Ab.D.w2n; (case hw => rfl); intro _ _) | (apply Xg.s; constructor) | fail | apply Ab.D.guardG) | (apply Ab.K.aopsP; first | apply Ab.Pd.nil | (apply Ab.Pd.q; (case hi => rfl)) | (apply Ab.Pd.z; (case hi => rfl)) | (apply Ab.Pd.zU; (case hi => rfl); (case hd => rfl); (case hb => (exact ev_; done))) | (apply Ab.Pd.zG; (case hi => rfl); (case hd => rfl)) | (apply Ab.Pd.st; (case hi => rfl)) | (apply Ab.Pd.qU; (case hi => rfl); (case hd => rfl); (case hb => (exact ev_; done))) | (apply Ab.Pd.qG; (case hi => rfl); (case hd => rfl)) | (apply Ab.Pd.stU; (case hi => rfl); (case hd => rfl); (case hb => (exact ev_; done))) | (apply Ab.Pd.stG; (case hi => rfl); (case hd => rfl))) | (apply Ab.Pd.qs; intro _ _) | (apply Ab.Pd.nxE; (case hE => rfl)) | (apply Ab.Pd.nxR; (case hr => (repeat' (first | exact Ab.Sub.del _ _ | assumption | (apply Ab.Sub.setI; (case hn => simp)) | (apply Ab.Sub.setF; (case hn => exact free_)) | exact (Ab.Sub.del _ _).trans (by assumption))))) | exact ⟨rfl, rfl⟩ | (apply Ab.K.awp; first | (apply AWp.schedS (id := 6) [(0, 2), (1, 1), (2, 2), (3, 2), (4, 1), (5, 2), (6, 1), (7, 2), (8, 2), (9, 1), (10, 0), (11, 0)] [10, 11] [[], [0], [], [0, 1, 2], [0, 1, 2, 3], [], [5], [], [5, 6, 7], [5, 6, 7, 8], [0, 1, 2, 3, 4, 5, 6, 7, 8, 9], [0, 1, 2, 3, 4, 5, 6, 7, 8, 9, 10]] [] (by kernel_rfl) (by kernel_rfl) (by kernel_rfl) rfl) | (apply Xg.s; constructor)) | (apply Ab.K.at_; exact at_) | (apply Ab.K.acall; first | assumption | fail) | (apply Ab.Rg.mk; omega) | (apply Ab.Lt.mk; first | decide | (simp; done) | (simp; omega) | fail) | (apply Ab.Get.mk; first | rfl | (first | rfl | (rw [Int.toNat_natCast, Nat.mul_one]; (first | exact hg | exact hg')) | (rw [Int.toNat_natCast]; (first | exact hg | exact hg')))) | (apply Ab.Nm.mk; first | exact nrm_) | (apply Xg.s; constructor) | (apply Ab.asm; assumption) | rfl | infer_instance | decide))
    all_goals ((first | apply RetQ.ret | apply RetQ.normal); (case he => exact evr_); (case hg => rfl))
    all_goals first | rfl | exact Keeps.fr F1 (plR.nm rfl)
theorem news18 {s : AHeap} {c d : List Value} {x y : Nw} (h : RW s c x) (k : RW s d y) (z1 : x.frames.length ≤ 1000000) (z2 : y.frames.length ≤ 1000000) (z3 : x.came.length ≤ 1000000) (z4 : y.came.length ≤ 1000000) : ACall Try.prog 18 [.agg c.toArray, .agg d.toArray] s (.bool (decide (x = y))) s := by
  obtain ⟨v, w, rfl, h1, h2⟩ := h; obtain ⟨v', w', rfl, k1, k2⟩ := k
  exact news18' h1 k1 h2 k2 z1 z2 z3 z4
end Go.Proofs.Ytoiplbackllgfaa

/- lines: new ones; ends of sessions. -/
namespace Go.Proofs.Ytoiplbackllgfaa
set_option linter.unusedVariables false
set_option linter.unusedSimpArgs false
set_option linter.unusedSectionVars false
open Go.RowKit Ab HP
attribute [local irreducible] AOps AOpsD AOpsP QStep NX AOp AWp put nargs AHeap.set At Free ACall ACallE thenQ blockQ roundQ RetQ RetE Src Gr
/-- A new line. -/
def lnew (lim : Int) : Ln := ⟨hnew 0 lim, sd0, tk0⟩
/-- A line whose session ends. -/
def lclose (l : Ln) (lim : Int) : Ln × Nw := if l.h.cur = 0 then (l, nw0) else (⟨close lim l.h, sd0, tk0⟩, ⟨[], [], true, 0⟩)
theorem new19_ok {s : AHeap} {lim : Int} (h : 1 ≤ lim ∧ lim ≤ 2147483647) : ACall Try.prog 19 [.int .i64 lim] s (.tuple #[.agg (lnl (lnew lim).h (lnew lim).s (.slice none 0 0) (lnew lim).t).toArray, .int .i64 0]) s := by
  refine ACall.make Try.func19 rfl (by kernel_rfl) (by decide) rfl (fun N hN0 => ?_)
  have hT : Top N s := hN0
  have c51 := new_ok (s := s.set N (.cells true 1 ln00)) (last := 0) (limit := lim) (by omega) h

  (repeat' (first | (apply Ab.K.ev; exact ev_) | (apply Ab.K.aops; first | (apply Xg.s; constructor) | apply Ab.S.guardG) | (apply Ab.K.aop; first | (first | (apply Ab.O.allocA N; (case hid => exact hT.free (Nat.le_refl _)); (case hp => rfl)) | (apply Ab.O.allocA (N + 1); (case hid => exact hT.new.free (Nat.le_refl _)); (case hp => rfl))) | (apply Og.s; constructor)) | (apply Ab.K.gk; first | (apply Xg.s; constructor) | (apply Ab.gY; case hw => assumption) | (apply Ab.gNT; case hw => assumption) | (apply Ab.gNF; case hw => assumption) | ((first | apply Ab.gD | apply Ab.gDN); all_goals (intro _ _; (first | contradiction | (exfalso; omega) | skip)))) | (apply Ab.K.awp; first | (apply Xg.s; constructor)) | (apply Ab.K.at_; exact at_) | (apply Ab.K.acall; first | assumption | exact c51) | (apply Ab.Rg.mk; omega) | (apply Ab.Lt.mk; first | decide | (simp; done) | (simp; omega) | fail) | (apply Ab.Get.mk; first | rfl | fail) | (apply Ab.Nm.mk; first | exact nrm_) | (apply Xg.s; constructor) | (apply Ab.asm; assumption) | rfl | infer_instance | decide))
  all_goals ((first | apply RetQ.ret | apply RetQ.normal); (case he => exact evr_); (case hg => rfl))
  all_goals first | rfl | (apply Keeps.fr; (case h => exact fr_); (case hv => exact plR.nm rfl))
theorem new19_no {s : AHeap} {lim : Int} (h : ¬ (1 ≤ lim ∧ lim ≤ 2147483647)) : ACall Try.prog 19 [.int .i64 lim] s (.tuple #[.agg ln00.toArray, .int .i64 1]) s := by
  refine ACall.make Try.func19 rfl (by kernel_rfl) (by decide) rfl (fun N hN0 => ?_)
  have hT : Top N s := hN0
  have c51 := new_bad (s := s.set N (.cells true 1 ln00)) (limit := lim) h
  (repeat' (first | (apply Ab.K.ev; exact ev_) | (apply Ab.K.aops; first | (apply Xg.s; constructor) | apply Ab.S.guardG) | (apply Ab.K.aop; first | (first | (apply Ab.O.allocA N; (case hid => exact hT.free (Nat.le_refl _)); (case hp => rfl)) | (apply Ab.O.allocA (N + 1); (case hid => exact hT.new.free (Nat.le_refl _)); (case hp => rfl))) | (apply Og.s; constructor)) | (apply Ab.K.gk; first | (apply Xg.s; constructor) | (apply Ab.gY; case hw => assumption) | (apply Ab.gNT; case hw => assumption) | (apply Ab.gNF; case hw => assumption) | ((first | apply Ab.gD | apply Ab.gDN); all_goals (intro _ _; (first | contradiction | (exfalso; omega) | skip)))) | (apply Ab.K.awp; first | (apply Xg.s; constructor)) | (apply Ab.K.at_; exact at_) | (apply Ab.K.acall; first | assumption | exact c51) | (apply Ab.Rg.mk; omega) | (apply Ab.Lt.mk; first | decide | (simp; done) | (simp; omega) | fail) | (apply Ab.Get.mk; first | rfl | fail) | (apply Ab.Nm.mk; first | exact nrm_) | (apply Xg.s; constructor) | (apply Ab.asm; assumption) | rfl | infer_instance | decide))
  all_goals ((first | apply RetQ.ret | apply RetQ.normal); (case he => exact evr_); (case hg => rfl))
  all_goals first | rfl | (apply Keeps.fr; (case h => exact fr_); (case hv => exact plR.nm rfl))
theorem new22 {s : AHeap} {lim : Int} (h : 1 ≤ lim ∧ lim ≤ 2147483647) : ACall Try.prog 22 [.int .i64 lim] s (.agg (lnl (lnew lim).h (lnew lim).s (.slice none 0 0) (lnew lim).t).toArray) s := by
  refine ACall.make Try.func22 rfl (by kernel_rfl) (by decide) rfl (fun N hN0 => ?_)
  have hT : Top N s := hN0
  have c54 := rnew_ok (s := s.set N (.cells true 1 ln00)) (last := 0) (limit := lim) (by omega) h
  (repeat' (first | (apply Ab.K.ev; exact ev_) | (apply Ab.K.aops; first | (apply Xg.s; constructor) | apply Ab.S.guardG) | (apply Ab.K.aop; first | (first | (apply Ab.O.allocA N; (case hid => exact hT.free (Nat.le_refl _)); (case hp => rfl)) | (apply Ab.O.allocA (N + 1); (case hid => exact hT.new.free (Nat.le_refl _)); (case hp => rfl))) | (apply Og.s; constructor)) | (apply Ab.K.gk; first | (apply Xg.s; constructor) | (apply Ab.gY; case hw => assumption) | (apply Ab.gNT; case hw => assumption) | (apply Ab.gNF; case hw => assumption) | ((first | apply Ab.gD | apply Ab.gDN); all_goals (intro _ _; (first | contradiction | (exfalso; omega) | skip)))) | (apply Ab.K.awp; first | (apply Xg.s; constructor)) | (apply Ab.K.at_; exact at_) | (apply Ab.K.acall; first | assumption | exact c54) | (apply Ab.Rg.mk; omega) | (apply Ab.Lt.mk; first | decide | (simp; done) | (simp; omega) | fail) | (apply Ab.Get.mk; first | rfl | fail) | (apply Ab.Nm.mk; first | exact nrm_) | (apply Xg.s; constructor) | (apply Ab.asm; assumption) | rfl | infer_instance | decide))
  all_goals ((first | apply RetQ.ret | apply RetQ.normal); (case he => exact evr_); (case hg => rfl))
  all_goals first | rfl | (apply Keeps.fr; (case h => exact fr_); (case hv => exact plR.nm rfl))
set_option maxRecDepth 100000 in
set_option maxHeartbeats 4000000 in
theorem close21_bad {s : AHeap} {last cur prop base sent clock next lim : Int} {over owes : Bool} {v : Value} {q : List (List Int)} (h : Qt s v q) (hq : q.length ≤ 1000000000) (hx : ¬ (Ln.May ⟨⟨last, cur, prop, over⟩, ⟨base, sent, q, clock⟩, ⟨next, owes⟩⟩ ∧ (1 ≤ lim ∧ lim ≤ 2147483647))) :
    ACall Try.prog 21 [.agg (lna last cur prop over base sent v clock next owes).toArray, .int .i64 lim] s (.tuple #[.agg ln00.toArray, .agg nw00.toArray, .int .i64 1]) s := by
  refine ACall.make Try.func21 rfl (by kernel_rfl) (by decide) rfl (fun N hN0 => ?_)
  have hT : Top N s := hN0
  obtain ⟨s1, hs1⟩ : ∃ s1 : AHeap, s1 = ((s.set N (.cells true 1 (lna last cur prop over base sent v clock next owes))).set (N + 1) (.cells true 1 ln00)).set (N + 2) (.cells true 1 nw00) := ⟨_, rfl⟩
  have F0 : Fr s1 s [] := by rw [hs1]; exact Fr.new (hT.free (by omega)) (Fr.new (hT.free (by omega)) (Fr.new (hT.free (Nat.le_refl _)) (Fr.refl _ _)))
  have F1 : Fr ((s1.set (N + 1) (.cells true 1 ln00)).set (N + 2) (.cells true 1 nw00)) s [] := Fr.new (hT.free (by omega)) (Fr.new (hT.free (by omega)) F0)
  have hS : Sub s s1 := fun i c hc => F0 i (by simp) c hc
  have aN : At s1 N (.cells true 1 (lna last cur prop over base sent v clock next owes)) := by rw [hs1]; exact at_
  have aN1 : At s1 (N + 1) (.cells true 1 ln00) := by rw [hs1]; exact at_
  have aN2 : At s1 (N + 2) (.cells true 1 nw00) := by rw [hs1]; exact At.hit
  have c14 := checkL' (s := s1) (last := last) (cur := cur) (prop := prop) (over := over) (base := base) (sent := sent) (clock := clock) (next := next) (owes := owes) (h.sub datQ hS) hq
  have c31 := count_dec (s := s1) (n := lim)

  by_cases hm : Ln.May ⟨⟨last, cur, prop, over⟩, ⟨base, sent, q, clock⟩, ⟨next, owes⟩⟩
  case neg =>
    rw [if_neg hm] at c14
    (repeat' (first | (apply Ab.K.ev; exact ev_) | (apply Ab.K.aops; first | (apply Xg.s; constructor) | apply Ab.S.guardG) | (apply Ab.K.aop; first | (first | (apply Ab.O.boxA N; (case hx => exact ev_); (case hid => exact frees_)) | (apply Ab.O.allocA (N + 1); (case hid => exact frees_); (case hp => rfl)) | (apply Ab.O.allocA (N + 2); (case hid => exact frees_); (case hp => rfl))) | (apply Og.s; constructor)) | (apply Ab.K.gk; first | (apply Xg.s; constructor) | (apply Ab.gY; case hw => assumption) | (apply Ab.gNT; case hw => assumption) | (apply Ab.gNF; case hw => assumption) | ((first | apply Ab.gD | apply Ab.gDN); all_goals (intro _ _; (first | contradiction | (exfalso; omega) | skip)))) | (apply Ab.K.awp; first | (apply Xg.s; constructor)) | (apply Ab.K.at_; exact at_) | (apply Ab.K.acall; first | assumption | first | exact c31 | (rw [← hs1]; exact c14)) | (apply Ab.Rg.mk; omega) | (apply Ab.Lt.mk; first | decide | (simp; done) | (simp; omega) | fail) | (apply Ab.Get.mk; first | rfl | fail) | (apply Ab.Nm.mk; first | exact nrm_) | (apply Xg.s; constructor) | (apply Ab.asm; assumption) | rfl | infer_instance | decide))
    all_goals ((first | apply RetQ.ret | apply RetQ.normal); (case he => exact evr_); (case hg => rfl))
    all_goals first | rfl | exact Keeps.fr F1 (plR.nm rfl)
  rw [if_pos hm] at c14
  rw [decide_eq_false (fun e => hx ⟨hm, e⟩)] at c31
  (repeat' (first | (apply Ab.K.ev; exact ev_) | (apply Ab.K.aops; first | (apply Xg.s; constructor) | apply Ab.S.guardG) | (apply Ab.K.aop; first | (first | (apply Ab.O.boxA N; (case hx => exact ev_); (case hid => exact frees_)) | (apply Ab.O.allocA (N + 1); (case hid => exact frees_); (case hp => rfl)) | (apply Ab.O.allocA (N + 2); (case hid => exact frees_); (case hp => rfl))) | (apply Og.s; constructor)) | (apply Ab.K.gk; first | (apply Xg.s; constructor) | (apply Ab.gY; case hw => assumption) | (apply Ab.gNT; case hw => assumption) | (apply Ab.gNF; case hw => assumption) | ((first | apply Ab.gD | apply Ab.gDN); all_goals (intro _ _; (first | contradiction | (exfalso; omega) | skip)))) | (apply Ab.K.awp; first | (apply Xg.s; constructor)) | (apply Ab.K.at_; exact at_) | (apply Ab.K.acall; first | assumption | first | exact c31 | (rw [← hs1]; exact c14)) | (apply Ab.Rg.mk; omega) | (apply Ab.Lt.mk; first | decide | (simp; done) | (simp; omega) | fail) | (apply Ab.Get.mk; first | rfl | fail) | (apply Ab.Nm.mk; first | exact nrm_) | (apply Xg.s; constructor) | (apply Ab.asm; assumption) | rfl | infer_instance | decide))
  all_goals ((first | apply RetQ.ret | apply RetQ.normal); (case he => exact evr_); (case hg => rfl))
  all_goals first | rfl | exact Keeps.fr F1 (plR.nm rfl)
set_option maxRecDepth 100000 in
set_option maxHeartbeats 4000000 in
theorem close21' {s b : AHeap} {last cur prop base sent clock next lim : Int} {over owes : Bool} {v : Value} {q : List (List Int)} (hb : Sub b s) (h : Qt b v q) (hm : Ln.May ⟨⟨last, cur, prop, over⟩, ⟨base, sent, q, clock⟩, ⟨next, owes⟩⟩) (hli : 1 ≤ lim ∧ lim ≤ 2147483647) :
    ACallE Try.prog 21 [.agg (lna last cur prop over base sent v clock next owes).toArray, .int .i64 lim] s (Pu s b (LWE (lclose ⟨⟨last, cur, prop, over⟩, ⟨base, sent, q, clock⟩, ⟨next, owes⟩⟩ lim).1 (lclose ⟨⟨last, cur, prop, over⟩, ⟨base, sent, q, clock⟩, ⟨next, owes⟩⟩ lim).2 0)) := by
  have hq : q.length ≤ 256 := hm.1.2.1.1.2.1
  have hhm : H.May ⟨last, cur, prop, over⟩ := hm.1.1
  refine ACallE.make Try.func21 rfl (by kernel_rfl) (by decide) rfl (fun N hN0 => ?_)
  have hT : Top N s := hN0
  obtain ⟨A, cap, rfl, hcap⟩ := h.isl
  obtain ⟨s1, hs1⟩ : ∃ s1 : AHeap, s1 = ((s.set N (.cells true 1 (lna last cur prop over base sent (.slice A q.length cap) clock next owes))).set (N + 1) (.cells true 1 ln00)).set (N + 2) (.cells true 1 nw00) := ⟨_, rfl⟩
  have I1 : Inv s b s1 b := by rw [hs1]; exact (((Inv.refl hb).boxT hT (Nat.le_refl _)).boxT hT.new (Nat.le_refl _)).boxT hT.new.new (Nat.le_refl _)
  have z : ∀ i, N ≤ i → i < N + 3 → Prv s s1 b i := fun i h1 h2 => ⟨hT.none h1, hb.none (hT.none h1), by
    rw [hs1]
    rcases (show i = N ∨ i = N + 1 ∨ i = N + 2 by omega) with rfl | rfl | rfl
    all_goals simp [AHeap.set]⟩
  have PN := z N (by omega) (by omega)
  have PN1 := z (N + 1) (by omega) (by omega)
  have PN2 := z (N + 2) (by omega) (by omega)
  have T1 : Top (N + 3) s1 := by rw [hs1]; exact hT.new.new.new
  have aN : At s1 N (.cells true 1 (lna last cur prop over base sent (.slice A q.length cap) clock next owes)) := by rw [hs1]; exact at_
  have aN1 : At s1 (N + 1) (.cells true 1 ln00) := by rw [hs1]; exact at_
  have aN2 : At s1 (N + 2) (.cells true 1 nw00) := by rw [hs1]; exact At.hit
  have PN3 : ∀ c, Prv s (s1.set (N + 3) c) b (N + 3) := fun c => Prv.mk' I1 (T1.none (Nat.le_refl _))
  have I3 : ∀ c, Inv s b (s1.set (N + 3) c) b := fun c => I1.boxT T1 (Nat.le_refl _)
  have c14 := checkL' (s := s1) (last := last) (cur := cur) (prop := prop) (over := over) (base := base) (sent := sent) (clock := clock) (next := next) (owes := owes) (h.sub datQ I1.sub) (by omega)
  rw [if_pos hm] at c14
  have c31 := count_dec (s := s1) (n := lim)
  rw [decide_eq_true hli] at c31
  have c53 := close_ok' (s := s1) (last := last) (cur := cur) (prop := prop) (over := over) (limit := lim) hhm hli

  by_cases h0 : cur = 0
  case pos =>
    rw [show lclose ⟨⟨last, cur, prop, over⟩, ⟨base, sent, q, clock⟩, ⟨next, owes⟩⟩ lim = (⟨⟨last, cur, prop, over⟩, ⟨base, sent, q, clock⟩, ⟨next, owes⟩⟩, nw0) from if_pos h0]
    (repeat' (first | (apply Ab.K.ev; exact ev_) | (apply Ab.K.aops; first | (apply Xg.s; constructor) | apply Ab.S.guardG) | (apply Ab.K.aop; first | (first | (apply Ab.O.boxA N; (case hx => exact ev_); (case hid => exact frees_)) | (apply Ab.O.allocA (N + 1); (case hid => exact frees_); (case hp => rfl)) | (apply Ab.O.allocA (N + 2); (case hid => exact frees_); (case hp => rfl)) | (apply Ab.O.allocA (N + 3); (case hid => exact T1.free (Nat.le_refl _)); (case hp => rfl))) | (apply Og.s; constructor)) | (apply Ab.K.gk; first | (apply Xg.s; constructor) | (apply Ab.gY; case hw => assumption) | (apply Ab.gNT; case hw => assumption) | (apply Ab.gNF; case hw => assumption) | ((first | apply Ab.gD | apply Ab.gDN); all_goals (intro _ _; (first | contradiction | (exfalso; omega) | skip)))) | (apply Ab.K.awp; first | (apply Xg.s; constructor)) | (apply Ab.K.at_; exact at_) | (apply Ab.K.acall; first | assumption | first | exact c31 | exact c53 | (rw [← hs1]; exact c14)) | (apply Ab.Rg.mk; omega) | (apply Ab.Lt.mk; first | decide | (simp; done) | (simp; omega) | fail) | (apply Ab.Get.mk; first | rfl | fail) | (apply Ab.Nm.mk; first | exact nrm_) | (apply Xg.s; constructor) | (apply Ab.asm; assumption) | rfl | infer_instance | decide))
    all_goals apply RetE.puR (b := b)
    case I => (repeat' (first | assumption | (apply Ab.Inv.boxP; (case p => (repeat' (first | assumption | apply Ab.Prv.set))))))
    case he => exact evr_
    case hg => rfl
    · exact (LWE.mk (y := ⟨⟨last, cur, prop, over⟩, ⟨base, sent, q, clock⟩, ⟨next, owes⟩⟩) (n := nw0) ⟨_, rfl, h⟩ ⟨_, _, rfl, .nil, .nil⟩).1
    · exact (LWE.mk (y := ⟨⟨last, cur, prop, over⟩, ⟨base, sent, q, clock⟩, ⟨next, owes⟩⟩) (n := nw0) (e := 0) ⟨_, rfl, h⟩ ⟨_, _, rfl, .nil, .nil⟩).2
  rw [show lclose ⟨⟨last, cur, prop, over⟩, ⟨base, sent, q, clock⟩, ⟨next, owes⟩⟩ lim = (⟨close lim ⟨last, cur, prop, over⟩, sd0, tk0⟩, ⟨[], [], true, 0⟩) from if_neg h0]
  obtain ⟨⟨last', cur', prop', over'⟩, hh⟩ : ∃ h', h' = close lim ⟨last, cur, prop, over⟩ := ⟨_, rfl⟩
  rw [← hh] at c53 ⊢
  (repeat' (first | (apply Ab.K.ev; exact ev_) | (apply Ab.K.aops; first | (apply Xg.s; constructor) | apply Ab.S.guardG) | (apply Ab.K.aop; first | (first | (apply Ab.O.boxA N; (case hx => exact ev_); (case hid => exact frees_)) | (apply Ab.O.allocA (N + 1); (case hid => exact frees_); (case hp => rfl)) | (apply Ab.O.allocA (N + 2); (case hid => exact frees_); (case hp => rfl)) | (apply Ab.O.allocA (N + 3); (case hid => exact T1.free (Nat.le_refl _)); (case hp => rfl))) | (apply Og.s; constructor)) | (apply Ab.K.gk; first | (apply Xg.s; constructor) | (apply Ab.gY; case hw => assumption) | (apply Ab.gNT; case hw => assumption) | (apply Ab.gNF; case hw => assumption) | ((first | apply Ab.gD | apply Ab.gDN); all_goals (intro _ _; (first | contradiction | (exfalso; omega) | skip)))) | (apply Ab.K.awp; first | (apply Xg.s; constructor)) | (apply Ab.K.at_; exact at_) | (apply Ab.K.acall; first | assumption | first | exact c31 | exact c53 | (rw [← hs1]; exact c14)) | (apply Ab.Rg.mk; omega) | (apply Ab.Lt.mk; first | decide | (simp; done) | (simp; omega) | fail) | (apply Ab.Get.mk; first | rfl | fail) | (apply Ab.Nm.mk; first | exact nrm_) | (apply Xg.s; constructor) | (apply Ab.asm; assumption) | rfl | infer_instance | decide))
  all_goals apply RetE.puR (b := b)
  case I => (repeat' (first | assumption | exact I3 _ | (apply Ab.Inv.boxP; (case p => (repeat' (first | assumption | exact PN3 _ | apply Ab.Prv.set))))))
  case he => exact evr_
  case hg => rfl
  · exact (LWE.mk (y := ⟨⟨last', cur', prop', over'⟩, sd0, tk0⟩) (n := ⟨[], [], true, 0⟩) ⟨_, rfl, .nil⟩ ⟨_, _, rfl, .nil, .nil⟩).1
  · exact (LWE.mk (y := ⟨⟨last', cur', prop', over'⟩, sd0, tk0⟩) (n := ⟨[], [], true, 0⟩) (e := 0) ⟨_, rfl, .nil⟩ ⟨_, _, rfl, .nil, .nil⟩).2
set_option maxRecDepth 100000 in
set_option maxHeartbeats 4000000 in
theorem close25' {s b : AHeap} {last cur prop base sent clock next lim : Int} {over owes : Bool} {v : Value} {q : List (List Int)} (hb : Sub b s) (h : Qt b v q) (hm : Ln.May ⟨⟨last, cur, prop, over⟩, ⟨base, sent, q, clock⟩, ⟨next, owes⟩⟩) (hli : 1 ≤ lim ∧ lim ≤ 2147483647) :
    ACallE Try.prog 25 [.agg (lna last cur prop over base sent v clock next owes).toArray, .int .i64 lim] s (Pu s b (LW (lclose ⟨⟨last, cur, prop, over⟩, ⟨base, sent, q, clock⟩, ⟨next, owes⟩⟩ lim).1 (lclose ⟨⟨last, cur, prop, over⟩, ⟨base, sent, q, clock⟩, ⟨next, owes⟩⟩ lim).2)) := by
  have hhm : H.May ⟨last, cur, prop, over⟩ := hm.1.1
  have hcur : 0 ≤ cur := by unfold H.May at hhm; simp only at hhm; omega
  refine ACallE.make Try.func25 rfl (by kernel_rfl) (by decide) rfl (fun N hN0 => ?_)
  have hT : Top N s := hN0
  obtain ⟨A, cap, rfl, hcap⟩ := h.isl
  obtain ⟨s1, hs1⟩ : ∃ s1 : AHeap, s1 = ((s.set N (.cells true 1 (lna last cur prop over base sent (.slice A q.length cap) clock next owes))).set (N + 1) (.cells true 1 ln00)).set (N + 2) (.cells true 1 nw00) := ⟨_, rfl⟩
  have I1 : Inv s b s1 b := by rw [hs1]; exact (((Inv.refl hb).boxT hT (Nat.le_refl _)).boxT hT.new (Nat.le_refl _)).boxT hT.new.new (Nat.le_refl _)
  have z : ∀ i, N ≤ i → i < N + 3 → Prv s s1 b i := fun i h1 h2 => ⟨hT.none h1, hb.none (hT.none h1), by
    rw [hs1]
    rcases (show i = N ∨ i = N + 1 ∨ i = N + 2 by omega) with rfl | rfl | rfl
    all_goals simp [AHeap.set]⟩
  have PN := z N (by omega) (by omega)
  have PN1 := z (N + 1) (by omega) (by omega)
  have PN2 := z (N + 2) (by omega) (by omega)
  have T1 : Top (N + 3) s1 := by rw [hs1]; exact hT.new.new.new
  have aN : At s1 N (.cells true 1 (lna last cur prop over base sent (.slice A q.length cap) clock next owes)) := by rw [hs1]; exact at_
  have aN1 : At s1 (N + 1) (.cells true 1 ln00) := by rw [hs1]; exact at_
  have aN2 : At s1 (N + 2) (.cells true 1 nw00) := by rw [hs1]; exact At.hit
  have c56 := rclose_ok (s := s1) (last := last) (cur := cur) (prop := prop) (over := over) (limit := lim) hhm.1 hcur hli

  by_cases h0 : cur = 0
  case pos =>
    rw [show lclose ⟨⟨last, cur, prop, over⟩, ⟨base, sent, q, clock⟩, ⟨next, owes⟩⟩ lim = (⟨⟨last, cur, prop, over⟩, ⟨base, sent, q, clock⟩, ⟨next, owes⟩⟩, nw0) from if_pos h0]
    (repeat' (first | (apply Ab.K.ev; exact ev_) | (apply Ab.K.aops; first | (apply Xg.s; constructor) | apply Ab.S.guardG) | (apply Ab.K.aop; first | (first | (apply Ab.O.boxA N; (case hx => exact ev_); (case hid => exact frees_)) | (apply Ab.O.allocA (N + 1); (case hid => exact frees_); (case hp => rfl)) | (apply Ab.O.allocA (N + 2); (case hid => exact frees_); (case hp => rfl))) | (apply Og.s; constructor)) | (apply Ab.K.gk; first | (apply Xg.s; constructor) | (apply Ab.gY; case hw => assumption) | (apply Ab.gNT; case hw => assumption) | (apply Ab.gNF; case hw => assumption) | ((first | apply Ab.gD | apply Ab.gDN); all_goals (intro _ _; (first | contradiction | (exfalso; omega) | skip)))) | (apply Ab.K.awp; first | (apply Xg.s; constructor)) | (apply Ab.K.at_; exact at_) | (apply Ab.K.acall; first | assumption | first | exact c56 | (rw [← hs1]; exact c56)) | (apply Ab.Rg.mk; omega) | (apply Ab.Lt.mk; first | decide | (simp; done) | (simp; omega) | fail) | (apply Ab.Get.mk; first | rfl | fail) | (apply Ab.Nm.mk; first | exact nrm_) | (apply Xg.s; constructor) | (apply Ab.asm; assumption) | rfl | infer_instance | decide))
    all_goals apply RetE.puR (b := b)
    case I => rw [← hs1]; (repeat' (first | assumption | (apply Ab.Inv.boxP; (case p => (repeat' (first | assumption | apply Ab.Prv.set))))))
    case he => exact evr_
    case hg => rfl
    · exact (LW.mk (y := ⟨⟨last, cur, prop, over⟩, ⟨base, sent, q, clock⟩, ⟨next, owes⟩⟩) (n := nw0) ⟨_, rfl, h⟩ ⟨_, _, rfl, .nil, .nil⟩).1
    · exact (LW.mk (y := ⟨⟨last, cur, prop, over⟩, ⟨base, sent, q, clock⟩, ⟨next, owes⟩⟩) (n := nw0) ⟨_, rfl, h⟩ ⟨_, _, rfl, .nil, .nil⟩).2
  rw [show lclose ⟨⟨last, cur, prop, over⟩, ⟨base, sent, q, clock⟩, ⟨next, owes⟩⟩ lim = (⟨close lim ⟨last, cur, prop, over⟩, sd0, tk0⟩, ⟨[], [], true, 0⟩) from if_neg h0]
  obtain ⟨⟨last', cur', prop', over'⟩, hh⟩ : ∃ h', h' = close lim ⟨last, cur, prop, over⟩ := ⟨_, rfl⟩
  rw [← hh] at c56 ⊢
  (repeat' (first | (apply Ab.K.ev; exact ev_) | (apply Ab.K.aops; first | (apply Xg.s; constructor) | apply Ab.S.guardG) | (apply Ab.K.aop; first | (first | (apply Ab.O.boxA N; (case hx => exact ev_); (case hid => exact frees_)) | (apply Ab.O.allocA (N + 1); (case hid => exact frees_); (case hp => rfl)) | (apply Ab.O.allocA (N + 2); (case hid => exact frees_); (case hp => rfl))) | (apply Og.s; constructor)) | (apply Ab.K.gk; first | (apply Xg.s; constructor) | (apply Ab.gY; case hw => assumption) | (apply Ab.gNT; case hw => assumption) | (apply Ab.gNF; case hw => assumption) | ((first | apply Ab.gD | apply Ab.gDN); all_goals (intro _ _; (first | contradiction | (exfalso; omega) | skip)))) | (apply Ab.K.awp; first | (apply Xg.s; constructor)) | (apply Ab.K.at_; exact at_) | (apply Ab.K.acall; first | assumption | first | exact c56 | (rw [← hs1]; exact c56)) | (apply Ab.Rg.mk; omega) | (apply Ab.Lt.mk; first | decide | (simp; done) | (simp; omega) | fail) | (apply Ab.Get.mk; first | rfl | fail) | (apply Ab.Nm.mk; first | exact nrm_) | (apply Xg.s; constructor) | (apply Ab.asm; assumption) | rfl | infer_instance | decide))
  all_goals apply RetE.puR (b := b)
  case I => (repeat' (first | assumption | (apply Ab.Inv.boxP; (case p => (repeat' (first | assumption | apply Ab.Prv.set))))))
  case he => exact evr_
  case hg => rfl
  · exact (LW.mk (y := ⟨⟨last', cur', prop', over'⟩, sd0, tk0⟩) (n := ⟨[], [], true, 0⟩) ⟨_, rfl, .nil⟩ ⟨_, _, rfl, .nil, .nil⟩).1
  · exact (LW.mk (y := ⟨⟨last', cur', prop', over'⟩, sd0, tk0⟩) (n := ⟨[], [], true, 0⟩) ⟨_, rfl, .nil⟩ ⟨_, _, rfl, .nil, .nil⟩).2
end Go.Proofs.Ytoiplbackllgfaa

/- lines: a payload more. -/
namespace Go.Proofs.Ytoiplbackllgfaa
set_option linter.unusedVariables false
set_option linter.unusedSimpArgs false
set_option linter.unusedSectionVars false
open Go.RowKit Ab HP
attribute [local irreducible] AOps AOpsD AOpsP QStep NX AOp AWp put nargs AHeap.set At Free ACall ACallE thenQ blockQ roundQ RetQ RetE Src Gr
/-- A line with a payload more. -/
def lpush (l : Ln) (p : List Int) (lim : Int) : Ln × Int := if l.h.cur = 0 then (ln0, 4) else if pushC l.s p lim = 0 then (⟨l.h, pushS l.s p lim, l.t⟩, 0) else (ln0, pushC l.s p lim)
set_option maxRecDepth 100000 in
set_option maxHeartbeats 4000000 in
theorem push20_bad {s : AHeap} {last cur prop base sent clock next lim : Int} {over owes : Bool} {v w : Value} {q : List (List Int)} (h : Qt s v q) (hq : q.length ≤ 1000000000) (hx : ¬ (Ln.May ⟨⟨last, cur, prop, over⟩, ⟨base, sent, q, clock⟩, ⟨next, owes⟩⟩ ∧ (1 ≤ lim ∧ lim ≤ 2147483647))) :
    ACall Try.prog 20 [.agg (lna last cur prop over base sent v clock next owes).toArray, w, .int .i64 lim] s (.tuple #[.agg ln00.toArray, .int .i64 1]) s := by
  refine ACall.make Try.func20 rfl (by kernel_rfl) (by decide) rfl (fun N hN0 => ?_)
  have hT : Top N s := hN0
  obtain ⟨s1, hs1⟩ : ∃ s1 : AHeap, s1 = (s.set N (.cells true 1 (lna last cur prop over base sent v clock next owes))).set (N + 1) (.cells true 1 ln00) := ⟨_, rfl⟩
  have F0 : Fr s1 s [] := by rw [hs1]; exact Fr.new (hT.free (by omega)) (Fr.new (hT.free (Nat.le_refl _)) (Fr.refl _ _))
  have F1 : Fr (s1.set (N + 1) (.cells true 1 ln00)) s [] := Fr.new (hT.free (by omega)) F0
  have hS : Sub s s1 := fun i c hc => F0 i (by simp) c hc
  have aN : At s1 N (.cells true 1 (lna last cur prop over base sent v clock next owes)) := by rw [hs1]; exact at_
  have aN1 : At s1 (N + 1) (.cells true 1 ln00) := by rw [hs1]; exact At.hit
  have c14 := checkL' (s := s1) (last := last) (cur := cur) (prop := prop) (over := over) (base := base) (sent := sent) (clock := clock) (next := next) (owes := owes) (h.sub datQ hS) hq
  have c31 := count_dec (s := s1) (n := lim)

  by_cases hm : Ln.May ⟨⟨last, cur, prop, over⟩, ⟨base, sent, q, clock⟩, ⟨next, owes⟩⟩
  case neg =>
    rw [if_neg hm] at c14
    (repeat' (first | (apply Ab.K.ev; exact ev_) | (apply Ab.K.aops; first | (apply Xg.s; constructor) | apply Ab.S.guardG) | (apply Ab.K.aop; first | (first | (apply Ab.O.boxA N; (case hx => exact ev_); (case hid => exact frees_)) | (apply Ab.O.allocA (N + 1); (case hid => exact frees_); (case hp => rfl))) | (apply Og.s; constructor)) | (apply Ab.K.gk; first | (apply Xg.s; constructor) | (apply Ab.gY; case hw => assumption) | (apply Ab.gNT; case hw => assumption) | (apply Ab.gNF; case hw => assumption) | ((first | apply Ab.gD | apply Ab.gDN); all_goals (intro _ _; (first | contradiction | (exfalso; omega) | skip)))) | (apply Ab.K.awp; first | (apply Xg.s; constructor)) | (apply Ab.K.at_; exact at_) | (apply Ab.K.acall; first | assumption | first | exact c31 | (rw [← hs1]; exact c14)) | (apply Ab.Rg.mk; omega) | (apply Ab.Lt.mk; first | decide | (simp; done) | (simp; omega) | fail) | (apply Ab.Get.mk; first | rfl | fail) | (apply Ab.Nm.mk; first | exact nrm_) | (apply Xg.s; constructor) | (apply Ab.asm; assumption) | rfl | infer_instance | decide))
    all_goals ((first | apply RetQ.ret | apply RetQ.normal); (case he => exact evr_); (case hg => rfl))
    all_goals first | rfl | exact Keeps.fr F1 (plR.nm rfl)
  rw [if_pos hm] at c14
  rw [decide_eq_false (fun e => hx ⟨hm, e⟩)] at c31
  (repeat' (first | (apply Ab.K.ev; exact ev_) | (apply Ab.K.aops; first | (apply Xg.s; constructor) | apply Ab.S.guardG) | (apply Ab.K.aop; first | (first | (apply Ab.O.boxA N; (case hx => exact ev_); (case hid => exact frees_)) | (apply Ab.O.allocA (N + 1); (case hid => exact frees_); (case hp => rfl))) | (apply Og.s; constructor)) | (apply Ab.K.gk; first | (apply Xg.s; constructor) | (apply Ab.gY; case hw => assumption) | (apply Ab.gNT; case hw => assumption) | (apply Ab.gNF; case hw => assumption) | ((first | apply Ab.gD | apply Ab.gDN); all_goals (intro _ _; (first | contradiction | (exfalso; omega) | skip)))) | (apply Ab.K.awp; first | (apply Xg.s; constructor)) | (apply Ab.K.at_; exact at_) | (apply Ab.K.acall; first | assumption | first | exact c31 | (rw [← hs1]; exact c14)) | (apply Ab.Rg.mk; omega) | (apply Ab.Lt.mk; first | decide | (simp; done) | (simp; omega) | fail) | (apply Ab.Get.mk; first | rfl | fail) | (apply Ab.Nm.mk; first | exact nrm_) | (apply Xg.s; constructor) | (apply Ab.asm; assumption) | rfl | infer_instance | decide))
  all_goals ((first | apply RetQ.ret | apply RetQ.normal); (case he => exact evr_); (case hg => rfl))
  all_goals first | rfl | exact Keeps.fr F1 (plR.nm rfl)
set_option maxRecDepth 100000 in
set_option maxHeartbeats 8000000 in
theorem push20' {s b : AHeap} {last cur prop base sent clock next lim : Int} {over owes : Bool} {v w : Value} {q : List (List Int)} {p : List Int} (hb : Sub b s) (h : Qt b v q) (hp : Bt b w p) (hpl : p.length ≤ 1000000000) (hm : Ln.May ⟨⟨last, cur, prop, over⟩, ⟨base, sent, q, clock⟩, ⟨next, owes⟩⟩) (hli : 1 ≤ lim ∧ lim ≤ 2147483647) :
    ACallE Try.prog 20 [.agg (lna last cur prop over base sent v clock next owes).toArray, w, .int .i64 lim] s (Pu s b (LE (lpush ⟨⟨last, cur, prop, over⟩, ⟨base, sent, q, clock⟩, ⟨next, owes⟩⟩ p lim).1 (lpush ⟨⟨last, cur, prop, over⟩, ⟨base, sent, q, clock⟩, ⟨next, owes⟩⟩ p lim).2)) := by
  have hq : q.length ≤ 256 := hm.1.2.1.1.2.1
  refine ACallE.make Try.func20 rfl (by kernel_rfl) (by decide) rfl (fun N hN0 => ?_)
  have hT : Top N s := hN0
  obtain ⟨A, cap, rfl, hcap⟩ := h.isl
  obtain ⟨A2, cap2, rfl, hcap2⟩ := hp.isl
  obtain ⟨s1, hs1⟩ : ∃ s1 : AHeap, s1 = (s.set N (.cells true 1 (lna last cur prop over base sent (.slice A q.length cap) clock next owes))).set (N + 1) (.cells true 1 ln00) := ⟨_, rfl⟩
  have I1 : Inv s b s1 b := by rw [hs1]; exact ((Inv.refl hb).boxT hT (Nat.le_refl _)).boxT hT.new (Nat.le_refl _)
  have PN : Prv s s1 b N := by rw [hs1]; exact (Prv.mk' (Inv.refl hb) (hT.none (Nat.le_refl _))).set
  have PN1 : Prv s s1 b (N + 1) := by rw [hs1]; exact Prv.mk' ((Inv.refl hb).boxT hT (Nat.le_refl _)) (hT.new.none (Nat.le_refl _))
  have T1 : Top (N + 2) s1 := by rw [hs1]; exact hT.new.new
  have aN : At s1 N (.cells true 1 (lna last cur prop over base sent (.slice A q.length cap) clock next owes)) := by rw [hs1]; exact at_
  have aN1 : At s1 (N + 1) (.cells true 1 ln00) := by rw [hs1]; exact At.hit
  have c14 := checkL' (s := s1) (last := last) (cur := cur) (prop := prop) (over := over) (base := base) (sent := sent) (clock := clock) (next := next) (owes := owes) (h.sub datQ I1.sub) (by omega)
  rw [if_pos hm] at c14
  have c31 := count_dec (s := s1) (n := lim)
  rw [decide_eq_true hli] at c31
  have cp := push52' (lim := lim) I1.sub h hp hpl hm.1.2.1 hli
  by_cases h0 : cur = 0
  case pos =>
    rw [show lpush ⟨⟨last, cur, prop, over⟩, ⟨base, sent, q, clock⟩, ⟨next, owes⟩⟩ p lim = (ln0, 4) from if_pos h0]
    (repeat' (first | (apply Ab.K.ev; exact ev_) | (apply Ab.K.aops; first | (apply Xg.s; constructor) | apply Ab.S.guardG) | (apply Ab.K.aop; first | (first | (apply Ab.O.boxA N; (case hx => exact ev_); (case hid => exact frees_)) | (apply Ab.O.allocA (N + 1); (case hid => exact frees_); (case hp => rfl)) | (apply Ab.O.callFE; (case ha => exact evs_); (case hc => exact cp))) | (apply Og.s; constructor)) | (apply Ab.K.gk; first | (apply Xg.s; constructor) | (apply Ab.gY; case hw => assumption) | (apply Ab.gNT; case hw => assumption) | (apply Ab.gNF; case hw => assumption) | ((first | apply Ab.gD | apply Ab.gDN); all_goals (intro _ _; (first | contradiction | (exfalso; omega) | skip)))) | (apply Ab.K.awp; first | (apply Xg.s; constructor)) | (apply Ab.K.at_; exact at_) | (apply Ab.K.acall; first | assumption | first | exact c31 | (rw [← hs1]; exact c14)) | (apply Ab.Rg.mk; omega) | (apply Ab.Lt.mk; first | decide | (simp; done) | (simp; omega) | fail) | (apply Ab.Get.mk; first | rfl | fail) | (apply Ab.Nm.mk; first | exact nrm_) | (apply Xg.s; constructor) | (apply Ab.asm; assumption) | rfl | infer_instance | decide))
    all_goals apply RetE.puR (b := b)
    case I => (repeat' (first | assumption | (apply Ab.Inv.boxP; (case p => (repeat' (first | assumption | apply Ab.Prv.set))))))
    case he => exact evr_
    case hg => rfl
    · exact (LE.mk (y := ln0) (e := 4) (RL.h _ b)).1
    · exact (LE.mk (y := ln0) (e := 4) (RL.h _ b)).2
  (repeat' (first | (apply Ab.K.ev; exact ev_) | (apply Ab.K.aops; first | (apply Xg.s; constructor) | apply Ab.S.guardG) | (apply Ab.K.aop; first | (first | (apply Ab.O.boxA N; (case hx => exact ev_); (case hid => exact frees_)) | (apply Ab.O.allocA (N + 1); (case hid => exact frees_); (case hp => rfl)) | (apply Ab.O.callFE; (case ha => exact evs_); (case hc => exact cp))) | (apply Og.s; constructor)) | (apply Ab.K.gk; first | (apply Xg.s; constructor) | (apply Ab.gY; case hw => assumption) | (apply Ab.gNT; case hw => assumption) | (apply Ab.gNF; case hw => assumption) | ((first | apply Ab.gD | apply Ab.gDN); all_goals (intro _ _; (first | contradiction | (exfalso; omega) | skip)))) | (apply Ab.K.awp; first | (apply Xg.s; constructor)) | (apply Ab.K.at_; exact at_) | (apply Ab.K.acall; first | assumption | first | exact c31 | (rw [← hs1]; exact c14)) | (apply Ab.Rg.mk; omega) | (apply Ab.Lt.mk; first | decide | (simp; done) | (simp; omega) | fail) | (apply Ab.Get.mk; first | rfl | fail) | (apply Ab.Nm.mk; first | exact nrm_) | (apply Xg.s; constructor) | (apply Ab.asm; assumption) | rfl | infer_instance | decide))
  rintro r s4 ⟨b4, I4, c4, rfl, v4, rfl, hv4⟩
  clear cp c14 c31
  obtain ⟨B, cb, rfl, _⟩ := hv4.isl
  obtain ⟨M, hM, T4⟩ := I4.fin _ T1
  have I5 := I1.trans I4
  have P4 := PN.call I4
  have P41 := PN1.call I4
  have a4 := I4.kp.at_ aN
  have a41 := I4.kp.at_ aN1
  obtain ⟨ec, hec⟩ : ∃ e, e = pushC ⟨base, sent, q, clock⟩ p lim := ⟨_, rfl⟩
  obtain ⟨x, hx⟩ : ∃ x, x = pushS ⟨base, sent, q, clock⟩ p lim := ⟨_, rfl⟩
  rw [← hx] at hv4
  rw [← hec, ← hx]
  have PM : ∀ c, Prv s (s4.set M c) b4 M := fun c => Prv.mk' I5 (T4.none (Nat.le_refl _))
  have IM : ∀ c, Inv s b (s4.set M c) b4 := fun c => I5.boxT T4 (Nat.le_refl _)

  by_cases he : ec = 0
  case neg =>
    rw [show lpush ⟨⟨last, cur, prop, over⟩, ⟨base, sent, q, clock⟩, ⟨next, owes⟩⟩ p lim = (ln0, ec) by rw [hec]; unfold lpush; rw [if_neg h0, if_neg (by rw [← hec]; exact he)]]
    (repeat' (first | (apply Ab.K.ev; exact ev_) | (apply Ab.K.aops; first | (apply Xg.s; constructor) | apply Ab.S.guardG) | (apply Ab.K.aop; first | (apply Ab.O.allocA M; (case hid => exact T4.free (Nat.le_refl _)); (case hp => rfl)) | (apply Og.s; constructor)) | (apply Ab.K.gk; first | (apply Xg.s; constructor) | (apply Ab.gY; case hw => assumption) | (apply Ab.gNT; case hw => assumption) | (apply Ab.gNF; case hw => assumption) | ((first | apply Ab.gD | apply Ab.gDN); all_goals (intro _ _; (first | contradiction | (exfalso; omega) | skip)))) | (apply Ab.K.awp; first | (apply Xg.s; constructor)) | (apply Ab.K.at_; exact at_) | (apply Ab.K.acall; first | assumption | fail) | (apply Ab.Rg.mk; omega) | (apply Ab.Lt.mk; first | decide | (simp; done) | (simp; omega) | fail) | (apply Ab.Get.mk; first | rfl | fail) | (apply Ab.Nm.mk; first | exact nrm_) | (apply Xg.s; constructor) | (apply Ab.asm; assumption) | rfl | infer_instance | decide))
    all_goals apply RetE.puR (b := b4)
    case I => (repeat' (first | assumption | exact IM _ | (apply Ab.Inv.boxP; (case p => (repeat' (first | assumption | exact PM _ | apply Ab.Prv.set))))))
    case he => exact evr_
    case hg => rfl
    · exact (LE.mk (y := ln0) (e := ec) (RL.h _ b4)).1
    · exact (LE.mk (y := ln0) (e := ec) (RL.h _ b4)).2
  rw [show lpush ⟨⟨last, cur, prop, over⟩, ⟨base, sent, q, clock⟩, ⟨next, owes⟩⟩ p lim = (⟨⟨last, cur, prop, over⟩, x, ⟨next, owes⟩⟩, 0) by rw [hx]; unfold lpush; rw [if_neg h0, if_pos (by rw [← hec]; exact he)]]
  clear hec hx
  (repeat' (first | (apply Ab.K.ev; exact ev_) | (apply Ab.K.aops; first | (apply Xg.s; constructor) | apply Ab.S.guardG) | (apply Ab.K.aop; first | (apply Ab.O.allocA M; (case hid => exact T4.free (Nat.le_refl _)); (case hp => rfl)) | (apply Og.s; constructor)) | (apply Ab.K.gk; first | (apply Xg.s; constructor) | (apply Ab.gY; case hw => assumption) | (apply Ab.gNT; case hw => assumption) | (apply Ab.gNF; case hw => assumption) | ((first | apply Ab.gD | apply Ab.gDN); all_goals (intro _ _; (first | contradiction | (exfalso; omega) | skip)))) | (apply Ab.K.awp; first | (apply Xg.s; constructor)) | (apply Ab.K.at_; exact at_) | (apply Ab.K.acall; first | assumption | fail) | (apply Ab.Rg.mk; omega) | (apply Ab.Lt.mk; first | decide | (simp; done) | (simp; omega) | fail) | (apply Ab.Get.mk; first | rfl | fail) | (apply Ab.Nm.mk; first | exact nrm_) | (apply Xg.s; constructor) | (apply Ab.asm; assumption) | rfl | infer_instance | decide))
  all_goals apply RetE.puR (b := b4)
  case I => (repeat' (first | assumption | exact IM _ | (apply Ab.Inv.boxP; (case p => (repeat' (first | assumption | exact PM _ | apply Ab.Prv.set))))))
  case he => exact evr_
  case hg => rfl
  · exact (LE.mk (y := ⟨⟨last, cur, prop, over⟩, x, ⟨next, owes⟩⟩) (e := 0) ⟨_, rfl, hv4⟩).1
  · exact (LE.mk (y := ⟨⟨last, cur, prop, over⟩, x, ⟨next, owes⟩⟩) (e := 0) ⟨_, rfl, hv4⟩).2
set_option maxRecDepth 100000 in
set_option maxHeartbeats 8000000 in
theorem push24' {s b : AHeap} {last cur prop base sent clock next lim : Int} {over owes : Bool} {v w : Value} {q : List (List Int)} {p : List Int} (hb : Sub b s) (h : Qt b v q) (hp : Bt b w p) (hpl : p.length ≤ 1000000000) (hm : Ln.May ⟨⟨last, cur, prop, over⟩, ⟨base, sent, q, clock⟩, ⟨next, owes⟩⟩) (hli : 1 ≤ lim ∧ lim ≤ 2147483647) :
    ACallE Try.prog 24 [.agg (lna last cur prop over base sent v clock next owes).toArray, w, .int .i64 lim] s (Pu s b (LE (lpush ⟨⟨last, cur, prop, over⟩, ⟨base, sent, q, clock⟩, ⟨next, owes⟩⟩ p lim).1 (lpush ⟨⟨last, cur, prop, over⟩, ⟨base, sent, q, clock⟩, ⟨next, owes⟩⟩ p lim).2)) := by
  have hq : q.length ≤ 256 := hm.1.2.1.1.2.1
  refine ACallE.make Try.func24 rfl (by kernel_rfl) (by decide) rfl (fun N hN0 => ?_)
  have hT : Top N s := hN0
  obtain ⟨A, cap, rfl, hcap⟩ := h.isl
  obtain ⟨A2, cap2, rfl, hcap2⟩ := hp.isl
  obtain ⟨s1, hs1⟩ : ∃ s1 : AHeap, s1 = (s.set N (.cells true 1 (lna last cur prop over base sent (.slice A q.length cap) clock next owes))).set (N + 1) (.cells true 1 ln00) := ⟨_, rfl⟩
  have I1 : Inv s b s1 b := by rw [hs1]; exact ((Inv.refl hb).boxT hT (Nat.le_refl _)).boxT hT.new (Nat.le_refl _)
  have PN : Prv s s1 b N := by rw [hs1]; exact (Prv.mk' (Inv.refl hb) (hT.none (Nat.le_refl _))).set
  have PN1 : Prv s s1 b (N + 1) := by rw [hs1]; exact Prv.mk' ((Inv.refl hb).boxT hT (Nat.le_refl _)) (hT.new.none (Nat.le_refl _))
  have T1 : Top (N + 2) s1 := by rw [hs1]; exact hT.new.new
  have aN : At s1 N (.cells true 1 (lna last cur prop over base sent (.slice A q.length cap) clock next owes)) := by rw [hs1]; exact at_
  have aN1 : At s1 (N + 1) (.cells true 1 ln00) := by rw [hs1]; exact At.hit
  have cp := push55' (lim := lim) I1.sub h hp hpl hm.1.2.1 hli
  by_cases h0 : cur = 0
  case pos =>
    rw [show lpush ⟨⟨last, cur, prop, over⟩, ⟨base, sent, q, clock⟩, ⟨next, owes⟩⟩ p lim = (ln0, 4) from if_pos h0]
    (repeat' (first | (apply Ab.K.ev; exact ev_) | (apply Ab.K.aops; first | (apply Xg.s; constructor) | apply Ab.S.guardG) | (apply Ab.K.aop; first | (first | (apply Ab.O.boxA N; (case hx => exact ev_); (case hid => exact frees_)) | (apply Ab.O.allocA (N + 1); (case hid => exact frees_); (case hp => rfl)) | (apply Ab.O.callFE; (case ha => exact evs_); (case hc => rw [← hs1]; exact cp))) | (apply Og.s; constructor)) | (apply Ab.K.gk; first | (apply Xg.s; constructor) | (apply Ab.gY; case hw => assumption) | (apply Ab.gNT; case hw => assumption) | (apply Ab.gNF; case hw => assumption) | ((first | apply Ab.gD | apply Ab.gDN); all_goals (intro _ _; (first | contradiction | (exfalso; omega) | skip)))) | (apply Ab.K.awp; first | (apply Xg.s; constructor)) | (apply Ab.K.at_; exact at_) | (apply Ab.K.acall; first | assumption | fail) | (apply Ab.Rg.mk; omega) | (apply Ab.Lt.mk; first | decide | (simp; done) | (simp; omega) | fail) | (apply Ab.Get.mk; first | rfl | fail) | (apply Ab.Nm.mk; first | exact nrm_) | (apply Xg.s; constructor) | (apply Ab.asm; assumption) | rfl | infer_instance | decide))
    all_goals apply RetE.puR (b := b)
    case I => rw [← hs1]; (repeat' (first | assumption | (apply Ab.Inv.boxP; (case p => (repeat' (first | assumption | apply Ab.Prv.set))))))
    case he => exact evr_
    case hg => rfl
    · exact (LE.mk (y := ln0) (e := 4) (RL.h _ b)).1
    · exact (LE.mk (y := ln0) (e := 4) (RL.h _ b)).2
  (repeat' (first | (apply Ab.K.ev; exact ev_) | (apply Ab.K.aops; first | (apply Xg.s; constructor) | apply Ab.S.guardG) | (apply Ab.K.aop; first | (first | (apply Ab.O.boxA N; (case hx => exact ev_); (case hid => exact frees_)) | (apply Ab.O.allocA (N + 1); (case hid => exact frees_); (case hp => rfl)) | (apply Ab.O.callFE; (case ha => exact evs_); (case hc => rw [← hs1]; exact cp))) | (apply Og.s; constructor)) | (apply Ab.K.gk; first | (apply Xg.s; constructor) | (apply Ab.gY; case hw => assumption) | (apply Ab.gNT; case hw => assumption) | (apply Ab.gNF; case hw => assumption) | ((first | apply Ab.gD | apply Ab.gDN); all_goals (intro _ _; (first | contradiction | (exfalso; omega) | skip)))) | (apply Ab.K.awp; first | (apply Xg.s; constructor)) | (apply Ab.K.at_; exact at_) | (apply Ab.K.acall; first | assumption | fail) | (apply Ab.Rg.mk; omega) | (apply Ab.Lt.mk; first | decide | (simp; done) | (simp; omega) | fail) | (apply Ab.Get.mk; first | rfl | fail) | (apply Ab.Nm.mk; first | exact nrm_) | (apply Xg.s; constructor) | (apply Ab.asm; assumption) | rfl | infer_instance | decide))
  rintro r s4 ⟨b4, I4, c4, rfl, v4, rfl, hv4⟩
  clear cp
  obtain ⟨B, cb, rfl, _⟩ := hv4.isl
  obtain ⟨M, hM, T4⟩ := I4.fin _ T1
  have I5 := I1.trans I4
  have P4 := PN.call I4
  have P41 := PN1.call I4
  have a4 := I4.kp.at_ aN
  have a41 := I4.kp.at_ aN1
  obtain ⟨ec, hec⟩ : ∃ e, e = pushC ⟨base, sent, q, clock⟩ p lim := ⟨_, rfl⟩
  obtain ⟨x, hx⟩ : ∃ x, x = pushS ⟨base, sent, q, clock⟩ p lim := ⟨_, rfl⟩
  rw [← hx] at hv4
  rw [← hec, ← hx]
  have PM : ∀ c, Prv s (s4.set M c) b4 M := fun c => Prv.mk' I5 (T4.none (Nat.le_refl _))
  have IM : ∀ c, Inv s b (s4.set M c) b4 := fun c => I5.boxT T4 (Nat.le_refl _)

  by_cases he : ec = 0
  case neg =>
    rw [show lpush ⟨⟨last, cur, prop, over⟩, ⟨base, sent, q, clock⟩, ⟨next, owes⟩⟩ p lim = (ln0, ec) by rw [hec]; unfold lpush; rw [if_neg h0, if_neg (by rw [← hec]; exact he)]]
    (repeat' (first | (apply Ab.K.ev; exact ev_) | (apply Ab.K.aops; first | (apply Xg.s; constructor) | apply Ab.S.guardG) | (apply Ab.K.aop; first | (apply Ab.O.allocA M; (case hid => exact T4.free (Nat.le_refl _)); (case hp => rfl)) | (apply Og.s; constructor)) | (apply Ab.K.gk; first | (apply Xg.s; constructor) | (apply Ab.gY; case hw => assumption) | (apply Ab.gNT; case hw => assumption) | (apply Ab.gNF; case hw => assumption) | ((first | apply Ab.gD | apply Ab.gDN); all_goals (intro _ _; (first | contradiction | (exfalso; omega) | skip)))) | (apply Ab.K.awp; first | (apply Xg.s; constructor)) | (apply Ab.K.at_; exact at_) | (apply Ab.K.acall; first | assumption | fail) | (apply Ab.Rg.mk; omega) | (apply Ab.Lt.mk; first | decide | (simp; done) | (simp; omega) | fail) | (apply Ab.Get.mk; first | rfl | fail) | (apply Ab.Nm.mk; first | exact nrm_) | (apply Xg.s; constructor) | (apply Ab.asm; assumption) | rfl | infer_instance | decide))
    all_goals apply RetE.puR (b := b4)
    case I => (repeat' (first | assumption | exact IM _ | (apply Ab.Inv.boxP; (case p => (repeat' (first | assumption | exact PM _ | apply Ab.Prv.set))))))
    case he => exact evr_
    case hg => rfl
    · exact (LE.mk (y := ln0) (e := ec) (RL.h _ b4)).1
    · exact (LE.mk (y := ln0) (e := ec) (RL.h _ b4)).2
  rw [show lpush ⟨⟨last, cur, prop, over⟩, ⟨base, sent, q, clock⟩, ⟨next, owes⟩⟩ p lim = (⟨⟨last, cur, prop, over⟩, x, ⟨next, owes⟩⟩, 0) by rw [hx]; unfold lpush; rw [if_neg h0, if_pos (by rw [← hec]; exact he)]]
  clear hec hx
  (repeat' (first | (apply Ab.K.ev; exact ev_) | (apply Ab.K.aops; first | (apply Xg.s; constructor) | apply Ab.S.guardG) | (apply Ab.K.aop; first | (apply Ab.O.allocA M; (case hid => exact T4.free (Nat.le_refl _)); (case hp => rfl)) | (apply Og.s; constructor)) | (apply Ab.K.gk; first | (apply Xg.s; constructor) | (apply Ab.gY; case hw => assumption) | (apply Ab.gNT; case hw => assumption) | (apply Ab.gNF; case hw => assumption) | ((first | apply Ab.gD | apply Ab.gDN); all_goals (intro _ _; (first | contradiction | (exfalso; omega) | skip)))) | (apply Ab.K.awp; first | (apply Xg.s; constructor)) | (apply Ab.K.at_; exact at_) | (apply Ab.K.acall; first | assumption | fail) | (apply Ab.Rg.mk; omega) | (apply Ab.Lt.mk; first | decide | (simp; done) | (simp; omega) | fail) | (apply Ab.Get.mk; first | rfl | fail) | (apply Ab.Nm.mk; first | exact nrm_) | (apply Xg.s; constructor) | (apply Ab.asm; assumption) | rfl | infer_instance | decide))
  all_goals apply RetE.puR (b := b4)
  case I => (repeat' (first | assumption | exact IM _ | (apply Ab.Inv.boxP; (case p => (repeat' (first | assumption | exact PM _ | apply Ab.Prv.set))))))
  case he => exact evr_
  case hg => rfl
  · exact (LE.mk (y := ⟨⟨last, cur, prop, over⟩, x, ⟨next, owes⟩⟩) (e := 0) ⟨_, rfl, hv4⟩).1
  · exact (LE.mk (y := ⟨⟨last, cur, prop, over⟩, x, ⟨next, owes⟩⟩) (e := 0) ⟨_, rfl, hv4⟩).2
end Go.Proofs.Ytoiplbackllgfaa
