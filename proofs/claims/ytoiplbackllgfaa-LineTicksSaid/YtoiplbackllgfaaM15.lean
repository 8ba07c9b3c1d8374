/- texts of this claim, one behind the other: LM, LO, LP. -/
import Derived.Test.YtoiplbackllgfaaM12
import Derived.Test.YtoiplbackllgfaaM13
import Derived.Test.YtoiplbackllgfaaM14

/- lines: what senders send, by the document; senders that are alike. -/
namespace Go.Proofs.Ytoiplbackllgfaa
set_option linter.unusedVariables false
set_option linter.unusedSimpArgs false
set_option linter.unusedSectionVars false
open Go.RowKit Ab HP
attribute [local irreducible] AOps AOpsD AOpsP QStep NX AOp AWp put nargs AHeap.set At Free ACall ACallE thenQ blockQ roundQ RetQ RetE Src Gr
set_option maxHeartbeats 4000000 in
theorem ready61' {s b : AHeap} {base clock : Int} {k : Nat} {v : Value} {q : List (List Int)} (hb : Sub b s) (h : Qt b v q) (hm : Sd.May ⟨base, k, q, clock⟩) :
    ACallE Try.prog 61 [.agg #[.int .i64 base, .int .i64 k, v, .int .i64 clock]] s (Pu s b (RR (readyS ⟨base, k, q, clock⟩).1 (readyS ⟨base, k, q, clock⟩).2)) := by
  have hq : q.length ≤ 256 := hm.1.2.1
  have hO := hm.1
  simp only [Sd.Ok] at hO
  obtain ⟨t, ht⟩ : ∃ t, t = min 16 q.length := ⟨_, rfl⟩
  have htop : topS ⟨base, k, q, clock⟩ = t := ht.symm
  have hkt : k ≤ t := by omega
  have hyS : readyS ⟨base, k, q, clock⟩ = (⟨base, (t : Nat), q, if k < t then 4 else clock⟩, ((nmb base q).drop k).take (t - k)) := by
    show (if k < topS _ then (_, _) else (_, _)) = _
    rw [htop]
    by_cases hk : k < t
    · rw [if_pos hk, if_pos hk]; rfl
    · rw [if_neg hk, if_neg hk]
      obtain rfl : k = t := by omega
      rw [Nat.sub_self, List.take_zero]
  rw [hyS]
  clear hyS htop
  refine ACallE.make Try.func61 rfl (by kernel_rfl) (by decide) rfl (fun N hN0 => ?_)
  have hT : Top N s := hN0
  obtain ⟨A, cap, rfl, hcap⟩ := h.isl
  obtain ⟨s1, hs1⟩ : ∃ s1 : AHeap, s1 = (s.set N (.cells true 1 [.int .i64 base, .int .i64 k, .slice A q.length cap, .int .i64 clock])).set (N + 1) (.cells true 1 [.int .i64 0, .int .i64 0, .slice none 0 0, .int .i64 0]) := ⟨_, rfl⟩
  have I1 : Inv s b s1 b := by rw [hs1]; exact ((Inv.refl hb).boxT hT (Nat.le_refl _)).boxT hT.new (Nat.le_refl _)
  have PN : Prv s s1 b N := by rw [hs1]; exact (Prv.mk' (Inv.refl hb) (hT.none (Nat.le_refl _))).set
  have PN1 : Prv s s1 b (N + 1) := by rw [hs1]; exact Prv.mk' ((Inv.refl hb).boxT hT (Nat.le_refl _)) (hT.new.none (Nat.le_refl _))
  have T1 : Top (N + 2) s1 := by rw [hs1]; exact hT.new.new
  have aN : At s1 N (.cells true 1 [.int .i64 base, .int .i64 k, .slice A q.length cap, .int .i64 clock]) := by rw [hs1]; exact at_
  have aN1 : At s1 (N + 1) (.cells true 1 [.int .i64 0, .int .i64 0, .slice none 0 0, .int .i64 0]) := by rw [hs1]; exact At.hit
  (repeat' (first | (apply Ab.K.ev; exact ev_) | (apply Ab.K.aops; first | (apply Xg.s; constructor) | apply Ab.S.guardG) | (apply Ab.K.aop; first | (first | (apply Ab.O.boxA N; (case hx => exact ev_); (case hid => exact frees_)) | (apply Ab.O.allocA (N + 1); (case hid => exact frees_); (case hp => rfl)) | (apply Ab.O.build0 (N + 2) (te := ⟨.struct [(0, 3), (1, 31)], 2, 32, .agg #[.int .i64 0, .slice none 0 0]⟩); (case hz => exact ⟨rfl, rfl⟩); (case hid => rw [← hs1]; exact T1.free (Nat.le_refl _)))) | (apply Og.s; constructor)) | (apply Ab.K.gk; first | (apply Xg.s; constructor) | (apply Ab.gY; case hw => assumption) | (apply Ab.gNT; case hw => assumption) | (apply Ab.gNF; case hw => assumption) | ((first | apply Ab.gD | apply Ab.gDN); all_goals (intro _ _; (first | contradiction | (exfalso; omega) | skip)))) | (apply Ab.K.aopsD; first | (apply Ab.D.q0t; (case hw => rfl); (case hot => rfl)) | (apply Ab.D.w1t; (case hw => rfl); (case hot => rfl)) | (apply Ab.D.q0; (case hw => rfl); intro _ _) | (apply Ab.D.w1n; (case hw => rfl); intro _ _) | (apply Ab.D.w2n; (case hw => rfl); intro _ _) | (apply Xg.s; constructor) | fail | apply Ab.D.guardG) | (apply Ab.K.aopsP; first | apply Ab.Pd.nil | (apply Ab.Pd.q; (case hi => rfl)) | (apply Ab.Pd.z; (case hi => rfl)) | (apply Ab.Pd.zU; (case hi => rfl); (case hd => rfl); (case hb => (exact ev_; done))) | (apply Ab.Pd.zG; (case hi => rfl); (case hd => rfl)) | (apply Ab.Pd.st; (case hi => rfl)) | (apply Ab.Pd.qU; (case hi => rfl); (case hd => rfl); (case hb => (exact ev_; done))) | (apply Ab.Pd.qG; (case hi => rfl); (case hd => rfl)) | (apply Ab.Pd.stU; (case hi => rfl); (case hd => rfl); (case hb => (exact ev_; done))) | (apply Ab.Pd.stG; (case hi => rfl); (case hd => rfl))) | (apply Ab.Pd.qs; intro _ _) | (apply Ab.Pd.nxE; (case hE => rfl)) | (apply Ab.Pd.nxR; (case hr => (repeat' (first | exact Ab.Sub.del _ _ | assumption | (apply Ab.Sub.setI; (case hn => simp)) | (apply Ab.Sub.setF; (case hn => exact free_)) | exact (Ab.Sub.del _ _).trans (by assumption))))) | exact ⟨rfl, rfl⟩ | (apply Ab.K.awp; first | (apply AWp.schedS (id := 3) [(0, 2), (1, 2), (2, 1), (3, 2), (4, 1), (5, 2), (6, 2), (7, 1), (8, 2), (9, 1), (10, 2), (11, 1), (12, 0), (13, 0), (14, 0), (15, 0)] [12, 13, 14, 15] [[], [], [1], [], [3], [1, 2, 3, 4], [], [6], [], [8], [6, 7, 8, 9], [6, 7, 8, 9, 10], [1, 2, 3, 4, 5, 6, 7, 8, 9, 10, 11], [1, 2, 3, 4, 5, 6, 7, 8, 9, 10, 11, 12], [0, 1, 2, 3, 4, 5, 6, 7, 8, 9, 10, 11, 12, 13], [0, 1, 2, 3, 4, 5, 6, 7, 8, 9, 10, 11, 12, 13, 14]] [] (by kernel_rfl) (by kernel_rfl) (by kernel_rfl) rfl) | (apply Xg.s; constructor)) | (apply Ab.K.at_; exact at_) | (apply Ab.K.acall; first | assumption | fail) | (apply Ab.Rg.mk; omega) | (apply Ab.Lt.mk; first | decide | (simp; done) | (simp; omega) | fail) | (apply Ab.Get.mk; first | rfl | fail) | (apply Ab.Nm.mk; first | exact nrm_) | (apply Xg.s; constructor) | (apply Ab.asm; assumption) | rfl | infer_instance | decide))
  rw [← hs1]
  refine AWp.loop (fun kk tm s2 => ∃ (i M : Nat) (w : Value) (on : Option Nat) (xs : List Value), Ev tm (.tmp 1) (.pointer (some ⟨N, 0, none⟩)) ∧ Ev tm (.tmp 2) (.pointer (some ⟨N + 1, 0, none⟩)) ∧ Ev tm (.tmp 4) w ∧ At s2 N (.cells true 1 [.int .i64 base, .int .i64 i, .slice A q.length cap, .int .i64 (if k < i then 4 else clock)]) ∧ At s2 (N + 1) (.cells true 1 [.int .i64 0, .int .i64 0, .slice none 0 0, .int .i64 0]) ∧ Inv s b s2 b ∧ Prv s s2 b N ∧ Prv s s2 b (N + 1) ∧ Gr s2 2 (N + 2) w on (i - k) xs ∧ Cs 2 (RN b) xs (((nmb base q).drop k).take (i - k)) ∧ (∀ o, on = some o → Prv s s2 b o) ∧ Top M s2 ∧ N + 2 ≤ M ∧ k ≤ i ∧ i ≤ t ∧ kk = t - i) (t - k) ?_ ?_
  · exact ⟨k, N + 3, _, some (N + 2), [], by exact ev_, by exact ev_, by exact ev_, by rw [if_neg (Nat.lt_irrefl _)]; exact At.miss (by omega) aN, At.miss (by omega) aN1, I1.boxT T1 (Nat.le_refl _), PN.set, PN1.set, (by rw [Nat.sub_self]; exact Gr.new At.hit rfl (Nat.le_refl _)), (by rw [Nat.sub_self]; exact Cs.nil), (fun o e => by obtain rfl := Option.some.inj e; exact Prv.mk' I1 (T1.none (Nat.le_refl _))), T1.new, by omega, Nat.le_refl _, hkt, rfl⟩
  clear I1 PN PN1 T1 aN aN1 hs1
  rintro kk tm s2 ⟨i, M, w, on, xs, e1, e2, e4, aN, aN1, I, PN, PN1, G, C, hP, T, hMM, hki, hi, hkk⟩
  by_cases hin : i < t
  · obtain ⟨x, hx⟩ : ∃ x, q[i]? = some x := ⟨_, List.getElem?_eq_getElem (by omega)⟩
    have htk := part_snoc hki (nmb_get (base := base) hx)
    obtain ⟨o, off, c, sp, rw', cs, u, e, _, ha, hg, hu⟩ := h.qelt hx
    obtain ⟨rfl, rfl⟩ : A = some ⟨o, off, sp⟩ ∧ cap = c := by injection e with e1 e2 e3; exact ⟨e1, e3⟩
    have a1 : At s2 o (.cells rw' 1 cs) := I.sub.at_ ha
    obtain ⟨B, c2, rfl, _⟩ := hu.isl
    have hlt := G.lt T
    have hge := G.from_

    (repeat' (first | (apply Ab.K.ev; exact ev_) | (apply Ab.K.aops; first | (apply Xg.s; constructor) | apply Ab.S.guardG) | (apply Ab.K.aop; first | (apply Ab.O.build1A M; (case hx => exact ev_); (case hl => rfl); (case hz => exact ⟨rfl, rfl⟩); (case hes => decide); (case hid => exact T.free (Nat.le_refl _))) | (apply Og.s; constructor)) | (apply Ab.K.gk; first | (apply Xg.s; constructor) | (apply Ab.gY; case hw => assumption) | (apply Ab.gNT; case hw => assumption) | (apply Ab.gNF; case hw => assumption) | ((first | apply Ab.gD | apply Ab.gDN); all_goals (intro _ _; (first | contradiction | (exfalso; omega) | skip)))) | (apply Ab.K.aopsD; first | (apply Ab.D.q0t; (case hw => rfl); (case hot => rfl)) | (apply Ab.D.w1t; (case hw => rfl); (case hot => rfl)) | (apply Ab.D.q0; (case hw => rfl); intro _ _) | (apply Ab.D.w1n; (case hw => rfl); intro _ _) | (apply Ab.D.w2n; (case hw => rfl); intro _ _) | (apply Xg.s; constructor) | fail | apply Ab.D.guardG) | (apply Ab.K.aopsP; first | apply Ab.Pd.nil | (apply Ab.Pd.q; (case hi => rfl)) | (apply Ab.Pd.z; (case hi => rfl)) | (apply Ab.Pd.zU; (case hi => rfl); (case hd => rfl); (case hb => (exact ev_; done))) | (apply Ab.Pd.zG; (case hi => rfl); (case hd => rfl)) | (apply Ab.Pd.st; (case hi => rfl)) | (apply Ab.Pd.qU; (case hi => rfl); (case hd => rfl); (case hb => (exact ev_; done))) | (apply Ab.Pd.qG; (case hi => rfl); (case hd => rfl)) | (apply Ab.Pd.stU; (case hi => rfl); (case hd => rfl); (case hb => (exact ev_; done))) | (apply Ab.Pd.stG; (case hi => rfl); (case hd => rfl))) | (apply Ab.Pd.qs; intro _ _) | (apply Ab.Pd.nxE; (case hE => rfl)) | (apply Ab.Pd.nxR; (case hr => (repeat' (first | exact Ab.Sub.del _ _ | assumption | (apply Ab.Sub.setI; (case hn => simp)) | (apply Ab.Sub.setF; (case hn => exact free_)) | exact (Ab.Sub.del _ _).trans (by assumption))))) | exact ⟨rfl, rfl⟩ | (apply Ab.K.awp; first | (apply AWp.schedS (id := 3) [(0, 2), (1, 2), (2, 1), (3, 2), (4, 1), (5, 2), (6, 2), (7, 1), (8, 2), (9, 1), (10, 2), (11, 1), (12, 0), (13, 0), (14, 0), (15, 0)] [12, 13, 14, 15] [[], [], [1], [], [3], [1, 2, 3, 4], [], [6], [], [8], [6, 7, 8, 9], [6, 7, 8, 9, 10], [1, 2, 3, 4, 5, 6, 7, 8, 9, 10, 11], [1, 2, 3, 4, 5, 6, 7, 8, 9, 10, 11, 12], [0, 1, 2, 3, 4, 5, 6, 7, 8, 9, 10, 11, 12, 13], [0, 1, 2, 3, 4, 5, 6, 7, 8, 9, 10, 11, 12, 13, 14]] [] (by kernel_rfl) (by kernel_rfl) (by kernel_rfl) rfl) | (apply Xg.s; constructor)) | (apply Ab.K.at_; exact at_) | (apply Ab.K.acall; first | assumption | fail) | (apply Ab.Rg.mk; omega) | (apply Ab.Lt.mk; first | decide | (simp; done) | (simp; omega) | fail) | (apply Ab.Get.mk; first | rfl | (first | rfl | (rw [Int.toNat_natCast, Nat.mul_one]; exact hg) | (rw [Int.toNat_natCast]; exact hg))) | (apply Ab.Nm.mk; first | exact nrm_) | (apply Xg.s; constructor) | (apply Ab.asm; assumption) | rfl | infer_instance | decide))
    have G4 := G.set (id := M) (b := .cells true 2 [.int .i64 (base + i), .slice B x.length c2]) (fun q e => by have := hlt q e; omega)
    clear G

    (apply Ab.O.appendL (M + 1); (case hx => exact ev_); (case hL => exact Ab.Gr.lat (by assumption)); (case hy => exact ev_); (case hs => exact srcAll At.hit rfl); (case hk => rfl); (case hm => decide); (case hl => first | rfl | simp); (case hz => decide); (case hb => omega); (case hfree => exact free_))
    intro s4 g
    have Ib := I.boxT (c := .cells true 2 [.int .i64 (base + i), .slice B x.length c2]) T (Nat.le_refl _)
    have I4 := Ib.grew g (fun q e => ⟨(hP q e).z, (hP q e).b⟩)
    have P4 := Prv.new Ib g
    have PN4 := (PN.set (N := M) (c := .cells true 2 [.int .i64 (base + i), .slice B x.length c2])).grew g (fun q e => by have := hge q e; omega)
    have PN14 := (PN1.set (N := M) (c := .cells true 2 [.int .i64 (base + i), .slice B x.length c2])).grew g (fun q e => by have := hge q e; omega)
    have aN4 := Gr.off g (At.miss (by omega) aN) (fun q e => by have := hge q e; omega) (by omega)
    have aN14 := Gr.off g (At.miss (by omega) aN1) (fun q e => by have := hge q e; omega) (by omega)
    have T4 := G4.topN g T.new
    have C4 : Cs 2 (RN b) (xs ++ [.int .i64 (base + i), .slice B x.length c2]) (((nmb base q).drop k).take (i + 1 - k)) := by rw [htk]; exact C.snoc rfl ⟨_, rfl, hu⟩
    have G5 : Gr s4 2 (N + 2) _ _ (i + 1 - k) _ := Gr.app g (by rw [C4.len, List.length_take, List.length_drop, nmb_length]; omega) (by omega)
    rw [show i - k + 1 = i + 1 - k by omega]
    (repeat' (first | (apply Ab.K.ev; exact ev_) | (apply Ab.K.aops; first | (apply Xg.s; constructor) | apply Ab.S.guardG) | (apply Ab.K.aop; first | (apply Og.s; constructor)) | (apply Ab.K.gk; first | (apply Xg.s; constructor) | (apply Ab.gY; case hw => assumption) | (apply Ab.gNT; case hw => assumption) | (apply Ab.gNF; case hw => assumption) | ((first | apply Ab.gD | apply Ab.gDN); all_goals (intro _ _; (first | contradiction | (exfalso; omega) | skip)))) | (apply Ab.K.aopsD; first | (apply Ab.D.q0t; (case hw => rfl); (case hot => rfl)) | (apply Ab.D.w1t; (case hw => rfl); (case hot => rfl)) | (apply Ab.D.q0; (case hw => rfl); intro _ _) | (apply Ab.D.w1n; (case hw => rfl); intro _ _) | (apply Ab.D.w2n; (case hw => rfl); intro _ _) | (apply Xg.s; constructor) | fail | apply Ab.D.guardG) | (apply Ab.K.aopsP; first | apply Ab.Pd.nil | (apply Ab.Pd.q; (case hi => rfl)) | (apply Ab.Pd.z; (case hi => rfl)) | (apply Ab.Pd.zU; (case hi => rfl); (case hd => rfl); (case hb => (exact ev_; done))) | (apply Ab.Pd.zG; (case hi => rfl); (case hd => rfl)) | (apply Ab.Pd.st; (case hi => rfl)) | (apply Ab.Pd.qU; (case hi => rfl); (case hd => rfl); (case hb => (exact ev_; done))) | (apply Ab.Pd.qG; (case hi => rfl); (case hd => rfl)) | (apply Ab.Pd.stU; (case hi => rfl); (case hd => rfl); (case hb => (exact ev_; done))) | (apply Ab.Pd.stG; (case hi => rfl); (case hd => rfl))) | (apply Ab.Pd.qs; intro _ _) | (apply Ab.Pd.nxE; (case hE => rfl)) | (apply Ab.Pd.nxR; (case hr => (repeat' (first | exact Ab.Sub.del _ _ | assumption | (apply Ab.Sub.setI; (case hn => simp)) | (apply Ab.Sub.setF; (case hn => exact free_)) | exact (Ab.Sub.del _ _).trans (by assumption))))) | exact ⟨rfl, rfl⟩ | (apply Ab.K.awp; first | (apply AWp.schedS (id := 3) [(0, 2), (1, 2), (2, 1), (3, 2), (4, 1), (5, 2), (6, 2), (7, 1), (8, 2), (9, 1), (10, 2), (11, 1), (12, 0), (13, 0), (14, 0), (15, 0)] [12, 13, 14, 15] [[], [], [1], [], [3], [1, 2, 3, 4], [], [6], [], [8], [6, 7, 8, 9], [6, 7, 8, 9, 10], [1, 2, 3, 4, 5, 6, 7, 8, 9, 10, 11], [1, 2, 3, 4, 5, 6, 7, 8, 9, 10, 11, 12], [0, 1, 2, 3, 4, 5, 6, 7, 8, 9, 10, 11, 12, 13], [0, 1, 2, 3, 4, 5, 6, 7, 8, 9, 10, 11, 12, 13, 14]] [] (by kernel_rfl) (by kernel_rfl) (by kernel_rfl) rfl) | (apply Xg.s; constructor)) | (apply Ab.K.at_; exact at_) | (apply Ab.K.acall; first | assumption | fail) | (apply Ab.Rg.mk; omega) | (apply Ab.Lt.mk; first | decide | (simp; done) | (simp; omega) | fail) | (apply Ab.Get.mk; first | rfl | (first | rfl | (rw [Int.toNat_natCast, Nat.mul_one]; exact hg) | (rw [Int.toNat_natCast]; exact hg))) | (apply Ab.Nm.mk; first | exact nrm_) | (apply Xg.s; constructor) | (apply Ab.asm; assumption) | rfl | infer_instance | decide))
    refine X.roundN (t - (i + 1)) (by omega) ⟨i + 1, M + 2, _, _, _, by exact ev_, by exact ev_, by exact ev_, ?_, by exact at_, by (repeat' (first | assumption | (apply Ab.Inv.boxP; (case p => (repeat' (first | assumption | apply Ab.Prv.set)))))), by (repeat' (first | assumption | apply Ab.Prv.set)), by (repeat' (first | assumption | apply Ab.Prv.set)), (G5.set fun q e => ?_).set (fun q e => ?_), C4, (fun o e => (by obtain rfl := Option.some.inj e; exact P4.set.set)), (T4.set (by omega)).set (by omega), by omega, by omega, by omega, rfl⟩
    · rw [if_pos (show k < i + 1 by omega), show ((i + 1 : Nat) : Int) = (i : Int) + 1 by omega]; exact At.hit
    · obtain rfl := Option.some.inj e; omega
    · obtain rfl := Option.some.inj e; omega
  · have hie : i = t := by omega
    subst hie
    obtain ⟨b2, I2, hs2, hw, hpr⟩ := G.tell2 datN I hP C
    have hge := G.from_
    obtain ⟨B, c2, rfl, _⟩ := hw.isl
    have PN2 := hpr N (fun e => by have := hge N e; omega) PN
    have PN12 := hpr (N + 1) (fun e => by have := hge (N + 1) e; omega) PN1
    have hu2 := h.sub datQ hs2
    clear PN PN1 I
    by_cases h16 : (i : Int) < 16
    all_goals (repeat' (first | (apply Ab.K.ev; exact ev_) | (apply Ab.K.aops; first | (apply Xg.s; constructor) | apply Ab.S.guardG) | (apply Ab.K.aop; first | (apply Og.s; constructor)) | (apply Ab.K.gk; first | (apply Xg.s; constructor) | (apply Ab.gY; case hw => assumption) | (apply Ab.gNT; case hw => assumption) | (apply Ab.gNF; case hw => assumption) | ((first | apply Ab.gD | apply Ab.gDN); all_goals (intro _ _; (first | contradiction | (exfalso; omega) | skip)))) | (apply Ab.K.aopsD; first | (apply Ab.D.q0t; (case hw => rfl); (case hot => rfl)) | (apply Ab.D.w1t; (case hw => rfl); (case hot => rfl)) | (apply Ab.D.q0; (case hw => rfl); intro _ _) | (apply Ab.D.w1n; (case hw => rfl); intro _ _) | (apply Ab.D.w2n; (case hw => rfl); intro _ _) | (apply Xg.s; constructor) | fail | apply Ab.D.guardG) | (apply Ab.K.aopsP; first | apply Ab.Pd.nil | (apply Ab.Pd.q; (case hi => rfl)) | (apply Ab.Pd.z; (case hi => rfl)) | (apply Ab.Pd.zU; (case hi => rfl); (case hd => rfl); (case hb => (exact ev_; done))) | (apply Ab.Pd.zG; (case hi => rfl); (case hd => rfl)) | (apply Ab.Pd.st; (case hi => rfl)) | (apply Ab.Pd.qU; (case hi => rfl); (case hd => rfl); (case hb => (exact ev_; done))) | (apply Ab.Pd.qG; (case hi => rfl); (case hd => rfl)) | (apply Ab.Pd.stU; (case hi => rfl); (case hd => rfl); (case hb => (exact ev_; done))) | (apply Ab.Pd.stG; (case hi => rfl); (case hd => rfl))) | (apply Ab.Pd.qs; intro _ _) | (apply Ab.Pd.nxE; (case hE => rfl)) | (apply Ab.Pd.nxR; (case hr => (repeat' (first | exact Ab.Sub.del _ _ | assumption | (apply Ab.Sub.setI; (case hn => simp)) | (apply Ab.Sub.setF; (case hn => exact free_)) | exact (Ab.Sub.del _ _).trans (by assumption))))) | exact ⟨rfl, rfl⟩ | (apply Ab.K.awp; first | (apply AWp.schedS (id := 3) [(0, 2), (1, 2), (2, 1), (3, 2), (4, 1), (5, 2), (6, 2), (7, 1), (8, 2), (9, 1), (10, 2), (11, 1), (12, 0), (13, 0), (14, 0), (15, 0)] [12, 13, 14, 15] [[], [], [1], [], [3], [1, 2, 3, 4], [], [6], [], [8], [6, 7, 8, 9], [6, 7, 8, 9, 10], [1, 2, 3, 4, 5, 6, 7, 8, 9, 10, 11], [1, 2, 3, 4, 5, 6, 7, 8, 9, 10, 11, 12], [0, 1, 2, 3, 4, 5, 6, 7, 8, 9, 10, 11, 12, 13], [0, 1, 2, 3, 4, 5, 6, 7, 8, 9, 10, 11, 12, 13, 14]] [] (by kernel_rfl) (by kernel_rfl) (by kernel_rfl) rfl) | (apply Xg.s; constructor)) | (apply Ab.K.at_; exact at_) | (apply Ab.K.acall; first | assumption | fail) | (apply Ab.Rg.mk; omega) | (apply Ab.Lt.mk; first | decide | (simp; done) | (simp; omega) | fail) | (apply Ab.Get.mk; first | rfl | (first | rfl | (rw [Int.toNat_natCast, Nat.mul_one]; exact hg) | (rw [Int.toNat_natCast]; exact hg))) | (apply Ab.Nm.mk; first | exact nrm_) | (apply Xg.s; constructor) | (apply Ab.asm; assumption) | rfl | infer_instance | decide))
    all_goals apply RetE.puR (b := b2)
    case I => (repeat' (first | assumption | (apply Ab.Inv.boxP; (case p => (repeat' (first | assumption | apply Ab.Prv.set))))))
    case I => (repeat' (first | assumption | (apply Ab.Inv.boxP; (case p => (repeat' (first | assumption | apply Ab.Prv.set))))))
    case he => exact evr_
    case he => exact evr_
    case hg => rfl
    case hg => rfl
    case hq => exact (RR.mk ⟨_, rfl, hu2⟩ hw).1
    case hq => exact (RR.mk ⟨_, rfl, hu2⟩ hw).1
    all_goals exact (RR.mk (y := ⟨base, (i : Nat), q, if k < i then 4 else clock⟩) ⟨_, rfl, hu2⟩ hw).2
set_option maxHeartbeats 4000000 in
theorem same41' {s : AHeap} {base sent clock base' sent' clock' : Int} {v w : Value} {q r : List (List Int)} (h : Qt s v q) (k : Qt s w r) (hq : q.length ≤ 1000000000) (hr : r.length ≤ 1000000000) :
    ACall Try.prog 41 [.agg #[.int .i64 base, .int .i64 sent, v, .int .i64 clock], .agg #[.int .i64 base', .int .i64 sent', w, .int .i64 clock']] s (.bool (decide ((base = base' ∧ sent = sent' ∧ clock = clock') ∧ q = r))) s := by
  refine ACall.make Try.func41 rfl (by kernel_rfl) (by decide) rfl (fun N hN0 => ?_)
  have hT : Top N s := hN0
  have F1 : Fr ((s.set N (.cells true 1 [.int .i64 base, .int .i64 sent, v, .int .i64 clock])).set (N + 1) (.cells true 1 [.int .i64 base', .int .i64 sent', w, .int .i64 clock'])) s [] := Fr.new (hT.free (by omega)) (Fr.new (hT.free (Nat.le_refl _)) (Fr.refl _ _))
  have hS : Sub s ((s.set N (.cells true 1 [.int .i64 base, .int .i64 sent, v, .int .i64 clock])).set (N + 1) (.cells true 1 [.int .i64 base', .int .i64 sent', w, .int .i64 clock'])) := fun i c hc => F1 i (by simp) c hc
  have cc := equal71 (h.sub datQ hS) (k.sub datQ hS) hq hr
  obtain ⟨A, cap, rfl, hcap⟩ := h.isl
  obtain ⟨B, cap2, rfl, hcap2⟩ := k.isl
  by_cases hb : base = base' ∧ sent = sent' ∧ clock = clock'
  case' pos => rw [show decide ((base = base' ∧ sent = sent' ∧ clock = clock') ∧ q = r) = decide (q = r) from decide_eq_decide.2 ⟨fun h => h.2, fun h => ⟨hb, h⟩⟩]; obtain ⟨h1, h2, h3⟩ := hb
  case' neg => rw [decide_eq_false (fun h : (base = base' ∧ sent = sent' ∧ clock = clock') ∧ q = r => hb h.1)]; by_cases h1 : base = base'; case' pos => (by_cases h2 : sent = sent')
  all_goals clear h k
  all_goals (repeat' (first | (apply Ab.K.ev; exact ev_) | (apply Ab.K.aops; first | (apply Xg.s; constructor) | apply Ab.S.guardG) | (apply Ab.K.aop; first | (first | (apply Ab.O.boxA N; (case hx => exact ev_); (case hid => exact frees_)) | (apply Ab.O.boxA (N + 1); (case hx => exact ev_); (case hid => exact frees_))) | (apply Og.s; constructor)) | (apply Ab.K.gk; first | (apply Xg.s; constructor) | (apply Ab.gY; case hw => assumption) | (apply Ab.gNT; case hw => assumption) | (apply Ab.gNF; case hw => assumption) | ((first | apply Ab.gD | apply Ab.gDN); all_goals (intro _ _; (first | contradiction | (exfalso; omega) | skip)))) | (apply Ab.K.awp; first | (apply Xg.s; constructor)) | (apply Ab.K.at_; exact at_) | (apply Ab.K.acall; first | assumption | fail) | (apply Ab.Rg.mk; omega) | (apply Ab.Lt.mk; first | decide | (simp; done) | (simp; omega) | fail) | (apply Ab.Get.mk; first | rfl | (first | rfl | (rw [Int.toNat_natCast, Nat.mul_one]; exact hg) | (rw [Int.toNat_natCast]; exact hg))) | (apply Ab.Nm.mk; first | exact nrm_) | (apply Xg.s; constructor) | (apply Ab.asm; assumption) | rfl | infer_instance | decide))
  all_goals ((first | apply RetQ.ret | apply RetQ.normal); (case he => exact evr_); (case hg => rfl))
  all_goals first | rfl | exact Keeps.fr F1 (plR.nm rfl) | (exfalso; omega)
set_option maxHeartbeats 4000000 in
theorem same40' {s : AHeap} {base sent clock base' sent' clock' : Int} {v w : Value} {q r : List (List Int)} (h : Qt s v q) (k : Qt s w r) (hq : q.length ≤ 1000000000) (hr : r.length ≤ 1000000000) :
    ACall Try.prog 40 [.agg #[.int .i64 base, .int .i64 sent, v, .int .i64 clock], .agg #[.int .i64 base', .int .i64 sent', w, .int .i64 clock']] s (.bool (decide ((base = base' ∧ sent = sent' ∧ clock = clock') ∧ q = r))) s := by
  refine ACall.make Try.func40 rfl (by kernel_rfl) (by decide) rfl (fun N hN0 => ?_)
  have hT : Top N s := hN0
  obtain ⟨A, cap, rfl, hcap⟩ := h.isl
  obtain ⟨B, cap2, rfl, hcap2⟩ := k.isl
  have F1 : Fr ((s.set N (.cells true 1 [.int .i64 base, .int .i64 sent, .slice A q.length cap, .int .i64 clock])).set (N + 1) (.cells true 1 [.int .i64 base', .int .i64 sent', .slice B r.length cap2, .int .i64 clock'])) s [] := Fr.new (hT.free (by omega)) (Fr.new (hT.free (Nat.le_refl _)) (Fr.refl _ _))
  have hS : Sub s ((s.set N (.cells true 1 [.int .i64 base, .int .i64 sent, .slice A q.length cap, .int .i64 clock])).set (N + 1) (.cells true 1 [.int .i64 base', .int .i64 sent', .slice B r.length cap2, .int .i64 clock'])) := fun i c hc => F1 i (by simp) c hc
  by_cases hb : (base = base' ∧ sent = sent' ∧ clock = clock') ∧ q.length = r.length
  case neg =>
    rw [decide_eq_false (fun h : (base = base' ∧ sent = sent' ∧ clock = clock') ∧ q = r => hb ⟨h.1, by rw [h.2]⟩)]
    clear h k
    (repeat' (first | (apply Ab.K.ev; exact ev_) | (apply Ab.K.aops; first | (apply Xg.s; constructor) | apply Ab.S.guardG) | (apply Ab.K.aop; first | (first | (apply Ab.O.boxA N; (case hx => exact ev_); (case hid => exact frees_)) | (apply Ab.O.boxA (N + 1); (case hx => exact ev_); (case hid => exact frees_))) | (apply Og.s; constructor)) | (apply Ab.K.gk; first | (apply Xg.s; constructor) | (apply Ab.gY; case hw => assumption) | (apply Ab.gNT; case hw => assumption) | (apply Ab.gNF; case hw => assumption) | ((first | apply Ab.gD | apply Ab.gDN); all_goals (intro _ _; (first | contradiction | (exfalso; omega) | skip)))) | (apply Ab.K.aopsD; first | (apply Ab.D.q0t; (case hw => rfl); (case hot => rfl)) | (apply Ab.D.w1t; (case hw => rfl); (case hot => rfl)) | (apply Ab.D.q0; (case hw => rfl); intro _ _) | (apply Ab.D.w1n; (case hw => rfl); intro _ _) | (apply Ab.D.w2n; (case hw => rfl); intro _ _) | (apply Xg.s; constructor) | fail | apply Ab.D.guardG) | (apply Ab.K.aopsP; first | apply Ab.Pd.nil | (apply Ab.Pd.q; (case hi => rfl)) | (apply Ab.Pd.z; (case hi => rfl)) | (apply Ab.Pd.zU; (case hi => rfl); (case hd => rfl); (case hb => (exact ev_; done))) | (apply Ab.Pd.zG; (case hi => rfl); (case hd => rfl)) | (apply Ab.Pd.st; (case hi => rfl)) | (apply Ab.Pd.qU; (case hi => rfl); (case hd => rfl); (case hb => (exact ev_; done))) | (apply Ab.Pd.qG; (case hi => rfl); (case hd => rfl)) | (apply Ab.Pd.stU; (case hi => rfl); (case hd => rfl); (case hb => (exact ev_; done))) | (apply Ab.Pd.stG; (case hi => rfl); (case hd => rfl))) | (apply Ab.Pd.qs; intro _ _) | (apply Ab.Pd.nxE; (case hE => rfl)) | (apply Ab.Pd.nxR; (case hr => (repeat' (first | exact Ab.Sub.del _ _ | assumption | (apply Ab.Sub.setI; (case hn => simp)) | (apply Ab.Sub.setF; (case hn => exact free_)) | exact (Ab.Sub.del _ _).trans (by assumption))))) | exact ⟨rfl, rfl⟩ | (apply Ab.K.awp; first | (apply AWp.schedS (id := 6) [(0, 2), (1, 1), (2, 2), (3, 2), (4, 1), (5, 1), (6, 2), (7, 1), (8, 2), (9, 2), (10, 1), (11, 1), (12, 0)] [12] [[], [0], [], [0, 1, 2], [0, 1, 2, 3], [0, 1, 2, 3, 4], [], [6], [], [6, 7, 8], [6, 7, 8, 9], [6, 7, 8, 9, 10], [0, 1, 2, 3, 4, 5, 6, 7, 8, 9, 10, 11]] [] (by kernel_rfl) (by kernel_rfl) (by kernel_rfl) rfl) | (apply Xg.s; constructor)) | (apply Ab.K.at_; exact at_) | (apply Ab.K.acall; first | assumption | fail) | (apply Ab.Rg.mk; omega) | (apply Ab.Lt.mk; first | decide | (simp; done) | (simp; omega) | fail) | (apply Ab.Get.mk; first | rfl | (first | rfl | (rw [Int.toNat_natCast, Nat.mul_one]; exact hg) | (rw [Int.toNat_natCast]; exact hg))) | (apply Ab.Nm.mk; first | exact nrm_) | (apply Xg.s; constructor) | (apply Ab.asm; assumption) | rfl | infer_instance | decide))
    all_goals ((first | apply RetQ.ret | apply RetQ.normal); (case he => exact evr_); (case hg => rfl))
    all_goals first | rfl | exact Keeps.fr F1 (plR.nm rfl)
  obtain ⟨⟨h1, h2, h3⟩, hl⟩ := hb
  rw [show decide ((base = base' ∧ sent = sent' ∧ clock = clock') ∧ q = r) = decide (q = r) from decide_eq_decide.2 ⟨fun h => h.2, fun h => ⟨⟨h1, h2, h3⟩, h⟩⟩]
  subst h1 h2 h3
  obtain ⟨s1, hs1⟩ : ∃ s1 : AHeap, s1 = (s.set N (.cells true 1 [.int .i64 base, .int .i64 sent, .slice A q.length cap, .int .i64 clock])).set (N + 1) (.cells true 1 [.int .i64 base, .int .i64 sent, .slice B r.length cap2, .int .i64 clock]) := ⟨_, rfl⟩
  have aN : At s1 N (.cells true 1 [.int .i64 base, .int .i64 sent, .slice A q.length cap, .int .i64 clock]) := by rw [hs1]; exact at_
  have aN1 : At s1 (N + 1) (.cells true 1 [.int .i64 base, .int .i64 sent, .slice B r.length cap2, .int .i64 clock]) := by rw [hs1]; exact At.hit
  (repeat' (first | (apply Ab.K.ev; exact ev_) | (apply Ab.K.aops; first | (apply Xg.s; constructor) | apply Ab.S.guardG) | (apply Ab.K.aop; first | (first | (apply Ab.O.boxA N; (case hx => exact ev_); (case hid => exact frees_)) | (apply Ab.O.boxA (N + 1); (case hx => exact ev_); (case hid => exact frees_))) | (apply Og.s; constructor)) | (apply Ab.K.gk; first | (apply Xg.s; constructor) | (apply Ab.gY; case hw => assumption) | (apply Ab.gNT; case hw => assumption) | (apply Ab.gNF; case hw => assumption) | ((first | apply Ab.gD | apply Ab.gDN); all_goals (intro _ _; (first | contradiction | (exfalso; omega) | skip)))) | (apply Ab.K.aopsD; first | (apply Ab.D.q0t; (case hw => rfl); (case hot => rfl)) | (apply Ab.D.w1t; (case hw => rfl); (case hot => rfl)) | (apply Ab.D.q0; (case hw => rfl); intro _ _) | (apply Ab.D.w1n; (case hw => rfl); intro _ _) | (apply Ab.D.w2n; (case hw => rfl); intro _ _) | (apply Xg.s; constructor) | fail | apply Ab.D.guardG) | (apply Ab.K.aopsP; first | apply Ab.Pd.nil | (apply Ab.Pd.q; (case hi => rfl)) | (apply Ab.Pd.z; (case hi => rfl)) | (apply Ab.Pd.zU; (case hi => rfl); (case hd => rfl); (case hb => (exact ev_; done))) | (apply Ab.Pd.zG; (case hi => rfl); (case hd => rfl)) | (apply Ab.Pd.st; (case hi => rfl)) | (apply Ab.Pd.qU; (case hi => rfl); (case hd => rfl); (case hb => (exact ev_; done))) | (apply Ab.Pd.qG; (case hi => rfl); (case hd => rfl)) | (apply Ab.Pd.stU; (case hi => rfl); (case hd => rfl); (case hb => (exact ev_; done))) | (apply Ab.Pd.stG; (case hi => rfl); (case hd => rfl))) | (apply Ab.Pd.qs; intro _ _) | (apply Ab.Pd.nxE; (case hE => rfl)) | (apply Ab.Pd.nxR; (case hr => (repeat' (first | exact Ab.Sub.del _ _ | assumption | (apply Ab.Sub.setI; (case hn => simp)) | (apply Ab.Sub.setF; (case hn => exact free_)) | exact (Ab.Sub.del _ _).trans (by assumption))))) | exact ⟨rfl, rfl⟩ | (apply Ab.K.awp; first | (apply AWp.schedS (id := 6) [(0, 2), (1, 1), (2, 2), (3, 2), (4, 1), (5, 1), (6, 2), (7, 1), (8, 2), (9, 2), (10, 1), (11, 1), (12, 0)] [12] [[], [0], [], [0, 1, 2], [0, 1, 2, 3], [0, 1, 2, 3, 4], [], [6], [], [6, 7, 8], [6, 7, 8, 9], [6, 7, 8, 9, 10], [0, 1, 2, 3, 4, 5, 6, 7, 8, 9, 10, 11]] [] (by kernel_rfl) (by kernel_rfl) (by kernel_rfl) rfl) | (apply Xg.s; constructor)) | (apply Ab.K.at_; exact at_) | (apply Ab.K.acall; first | assumption | fail) | (apply Ab.Rg.mk; omega) | (apply Ab.Lt.mk; first | decide | (simp; done) | (simp; omega) | fail) | (apply Ab.Get.mk; first | rfl | (first | rfl | (rw [Int.toNat_natCast, Nat.mul_one]; exact hg) | (rw [Int.toNat_natCast]; exact hg))) | (apply Ab.Nm.mk; first | exact nrm_) | (apply Xg.s; constructor) | (apply Ab.asm; assumption) | rfl | infer_instance | decide))
  rw [← hs1]
  rw [← hs1] at F1 hS
  refine AWp.loop (fun kk tm s2 => ∃ (i : Nat), Ev tm (.tmp 2) (.pointer (some ⟨N, 0, none⟩)) ∧ Ev tm (.tmp 3) (.pointer (some ⟨N + 1, 0, none⟩)) ∧ Ev tm (.tmp 5) (.int .i64 i) ∧ s2 = s1 ∧ q.take i = r.take i ∧ i ≤ q.length ∧ kk = q.length - i) q.length ?_ ?_
  · exact ⟨0, by exact ev_, by exact ev_, by exact ev_, rfl, rfl, by omega, rfl⟩
  rintro kk tm s2 ⟨i, e2, e3, e5, rfl, hnb, hi, hkk⟩
  by_cases hin : i < q.length
  · obtain ⟨x, hx⟩ : ∃ x, q[i]? = some x := ⟨_, List.getElem?_eq_getElem hin⟩
    obtain ⟨y, hy⟩ : ∃ y, r[i]? = some y := ⟨_, List.getElem?_eq_getElem (by omega)⟩
    have htk : q.take (i + 1) = q.take i ++ [x] := by rw [List.take_add_one, hx]; rfl
    have htk2 : r.take (i + 1) = r.take i ++ [y] := by rw [List.take_add_one, hy]; rfl
    obtain ⟨o, off, c, sp, rw', cs, u, e, _, ha, hg, hu⟩ := h.qelt hx
    obtain ⟨rfl, rfl⟩ : A = some ⟨o, off, sp⟩ ∧ cap = c := by injection e with e1 e2 e3; exact ⟨e1, e3⟩
    obtain ⟨o', off', c', sp', rw'', cs', u', e', _, ha', hg', hu'⟩ := k.qelt hy
    obtain ⟨rfl, rfl⟩ : B = some ⟨o', off', sp'⟩ ∧ cap2 = c' := by injection e' with e1 e2 e3; exact ⟨e1, e3⟩
    have a1 := hS.at_ ha
    have a1' := hS.at_ ha'
    have hst := strOf_dec hu.byt hu'.byt
    have hub : ∀ t', Sub (Ab.del s2 []) t' → Bt t' u x := fun t' h => hu.bt (fun i c hc => h i c (by unfold Ab.del; rw [if_neg (by simp)]; exact hS i c hc))
    have hub' : ∀ t', Sub (Ab.del s2 []) t' → Bt t' u' y := fun t' h => hu'.bt (fun i c hc => h i c (by unfold Ab.del; rw [if_neg (by simp)]; exact hS i c hc))


    by_cases hb : x = y
    · replace hst : (!decide ((strOf x).data.toList = (strOf y).data.toList)) = false := by rw [hst, decide_eq_true hb]; rfl
      (repeat' (first | (apply Ab.K.ev; exact ev_) | (apply Ab.K.aops; first | (apply Xg.s; constructor) | apply Ab.S.guardG) | (apply Ab.K.aop; first | (first | (apply Ab.O.strB; (case hx => exact ev_); (case h => exact hub _ (by assumption))) | (apply Ab.O.strB; (case hx => exact ev_); (case h => exact hub' _ (by assumption)))) | (apply Ab.O.strNe; (case hx => exact ev_); (case hy => exact ev_); (case h => rw [hst])) | (apply Og.s; constructor)) | (apply Ab.K.gk; first | (apply Xg.s; constructor) | (apply Ab.gY; case hw => assumption) | (apply Ab.gNT; case hw => assumption) | (apply Ab.gNF; case hw => assumption) | ((first | apply Ab.gD | apply Ab.gDN); all_goals (intro _ _; (first | contradiction | (exfalso; omega) | skip)))) | (apply Ab.K.aopsD; first | (apply Ab.D.q0t; (case hw => rfl); (case hot => rfl)) | (apply Ab.D.w1t; (case hw => rfl); (case hot => rfl)) | (apply Ab.D.q0; (case hw => rfl); intro _ _) | (apply Ab.D.w1n; (case hw => rfl); intro _ _) | (apply Ab.D.w2n; (case hw => rfl); intro _ _) | (apply Xg.s; constructor) | fail | apply Ab.D.guardG) | (apply Ab.K.aopsP; first | apply Ab.Pd.nil | (apply Ab.Pd.q; (case hi => rfl)) | (apply Ab.Pd.z; (case hi => rfl)) | (apply Ab.Pd.zU; (case hi => rfl); (case hd => rfl); (case hb => (exact ev_; done))) | (apply Ab.Pd.zG; (case hi => rfl); (case hd => rfl)) | (apply Ab.Pd.st; (case hi => rfl)) | (apply Ab.Pd.qU; (case hi => rfl); (case hd => rfl); (case hb => (exact ev_; done))) | (apply Ab.Pd.qG; (case hi => rfl); (case hd => rfl)) | (apply Ab.Pd.stU; (case hi => rfl); (case hd => rfl); (case hb => (exact ev_; done))) | (apply Ab.Pd.stG; (case hi => rfl); (case hd => rfl))) | (apply Ab.Pd.qs; intro _ _) | (apply Ab.Pd.nxE; (case hE => rfl)) | (apply Ab.Pd.nxR; (case hr => (repeat' (first | exact Ab.Sub.del _ _ | assumption | (apply Ab.Sub.setI; (case hn => simp)) | (apply Ab.Sub.setF; (case hn => exact free_)) | exact (Ab.Sub.del _ _).trans (by assumption))))) | exact ⟨rfl, rfl⟩ | (apply Ab.K.awp; first | (apply AWp.schedS (id := 6) [(0, 2), (1, 1), (2, 2), (3, 2), (4, 1), (5, 1), (6, 2), (7, 1), (8, 2), (9, 2), (10, 1), (11, 1), (12, 0)] [12] [[], [0], [], [0, 1, 2], [0, 1, 2, 3], [0, 1, 2, 3, 4], [], [6], [], [6, 7, 8], [6, 7, 8, 9], [6, 7, 8, 9, 10], [0, 1, 2, 3, 4, 5, 6, 7, 8, 9, 10, 11]] [] (by kernel_rfl) (by kernel_rfl) (by kernel_rfl) rfl) | (apply Xg.s; constructor)) | (apply Ab.K.at_; exact at_) | (apply Ab.K.acall; first | assumption | fail) | (apply Ab.Rg.mk; omega) | (apply Ab.Lt.mk; first | decide | (simp; done) | (simp; omega) | fail) | (apply Ab.Get.mk; first | rfl | (first | rfl | (rw [Int.toNat_natCast, Nat.mul_one]; (first | exact hg | exact hg')) | (rw [Int.toNat_natCast]; (first | exact hg | exact hg')))) | (apply Ab.Nm.mk; first | exact nrm_) | (apply Xg.s; constructor) | (apply Ab.asm; assumption) | rfl | infer_instance | decide))
      exact X.roundN (q.length - (i + 1)) (by omega) ⟨i + 1, by exact ev_, by exact ev_, by exact ev_, rfl, by rw [htk, htk2, hnb, hb], by omega, by omega⟩
    · replace hst : (!decide ((strOf x).data.toList = (strOf y).data.toList)) = true := by rw [hst, decide_eq_false hb]; rfl
      rw [decide_eq_false (fun e : q = r => hb (by rw [e, hy] at hx; exact (Option.some.inj hx).symm))]
      (repeat' (first | (apply Ab.K.ev; exact ev_) | (apply Ab.K.aops; first | (apply Xg.s; constructor) | apply Ab.S.guardG) | (apply Ab.K.aop; first | (first | (apply Ab.O.strB; (case hx => exact ev_); (case h => exact hub _ (by assumption))) | (apply Ab.O.strB; (case hx => exact ev_); (case h => exact hub' _ (by assumption)))) | (apply Ab.O.strNe; (case hx => exact ev_); (case hy => exact ev_); (case h => rw [hst])) | (apply Og.s; constructor)) | (apply Ab.K.gk; first | (apply Xg.s; constructor) | (apply Ab.gY; case hw => assumption) | (apply Ab.gNT; case hw => assumption) | (apply Ab.gNF; case hw => assumption) | ((first | apply Ab.gD | apply Ab.gDN); all_goals (intro _ _; (first | contradiction | (exfalso; omega) | skip)))) | (apply Ab.K.aopsD; first | (apply Ab.D.q0t; (case hw => rfl); (case hot => rfl)) | (apply Ab.D.w1t; (case hw => rfl); (case hot => rfl)) | (apply Ab.D.q0; (case hw => rfl); intro _ _) | (apply Ab.D.w1n; (case hw => rfl); intro _ _) | (apply Ab.D.w2n; (case hw => rfl); intro _ _) | (apply Xg.s; constructor) | fail | apply Ab.D.guardG) | (apply Ab.K.aopsP; first | apply Ab.Pd.nil | (apply Ab.Pd.q; (case hi => rfl)) | (apply Ab.Pd.z; (case hi => rfl)) | (apply Ab.Pd.zU; (case hi => rfl); (case hd => rfl); (case hb => (exact ev_; done))) | (apply Ab.Pd.zG; (case hi => rfl); (case hd => rfl)) | (apply Ab.Pd.st; (case hi => rfl)) | (apply Ab.Pd.qU; (case hi => rfl); (case hd => rfl); (case hb => (exact ev_; done))) | (apply Ab.Pd.qG; (case hi => rfl); (case hd => rfl)) | (apply Ab.Pd.stU; (case hi => rfl); (case hd => rfl); (case hb => (exact ev_; done))) | (apply Ab.Pd.stG; (case hi => rfl); (case hd => rfl))) | (apply Ab.Pd.qs; intro _ _) | (apply Ab.Pd.nxE; (case hE => rfl)) | (apply Ab.Pd.nxR; (case hr => (repeat' (first | exact Ab.Sub.del _ _ | assumption | (apply Ab.Sub.setI; (case hn => simp)) | (apply Ab.Sub.setF; (case hn => exact free_)) | exact (Ab.Sub.del _ _).trans (by assumption))))) | exact ⟨rfl, rfl⟩ | (apply Ab.K.awp; first | (apply AWp.schedS (id := 6) [(0, 2), (1, 1), (2, 2), (3, 2), (4, 1), (5, 1), (6, 2), (7, 1), (8, 2), (9, 2), (10, 1), (11, 1), (12, 0)] [12] [[], [0], [], [0, 1, 2], [0, 1, 2, 3], [0, 1, 2, 3, 4], [], [6], [], [6, 7, 8], [6, 7, 8, 9], [6, 7, 8, 9, 10], [0, 1, 2, 3, 4, 5, 6, 7, 8, 9, 10, 11]] [] (by kernel_rfl) (by kernel_rfl) (by kernel_rfl) rfl) | (apply Xg.s; constructor)) | (apply Ab.K.at_; exact at_) | (apply Ab.K.acall; first | assumption | fail) | (apply Ab.Rg.mk; omega) | (apply Ab.Lt.mk; first | decide | (simp; done) | (simp; omega) | fail) | (apply Ab.Get.mk; first | rfl | (first | rfl | (rw [Int.toNat_natCast, Nat.mul_one]; (first | exact hg | exact hg')) | (rw [Int.toNat_natCast]; (first | exact hg | exact hg')))) | (apply Ab.Nm.mk; first | exact nrm_) | (apply Xg.s; constructor) | (apply Ab.asm; assumption) | rfl | infer_instance | decide))
      all_goals ((first | apply RetQ.ret | apply RetQ.normal); (case he => exact evr_); (case hg => rfl))
      all_goals first | rfl | exact Keeps.fr F1 (plR.nm rfl)
  · obtain rfl : i = q.length := by omega
    rw [List.take_length, hl, List.take_length] at hnb
    rw [decide_eq_true hnb]

    (repeat' (first | (apply Ab.K.ev; exact ev_) | (apply Ab.K.aops; first | (apply Xg.s; constructor) | apply Ab.S.guardG) | (apply Ab.K.aop; first | (apply Og.s; constructor)) | (apply Ab.K.gk; first | (apply Xg.s; constructor) | (apply Ab.gY; case hw => assumption) | (apply Ab.gNT; case hw => assumption) | (apply Ab.gNF; case hw => assumption) | ((first | apply Ab.gD | apply Ab.gDN); all_goals (intro _ _; (first | contradiction | (exfalso; omega) | skip)))) | (apply Ab.K.aopsD; first | (apply Ab.D.q0t; (case hw => rfl); (case hot => rfl)) | (apply Ab.D.w1t; (case hw => rfl); (case hot => rfl)) | (apply Ab.D.q0; (case hw => rfl); intro _ _) | (apply Ab.D.w1n; (case hw => rfl); intro _ _) | (apply Ab.D.w2n; (case hw => rfl); intro _ _) | (apply Xg.s; constructor) | fail | apply Ab.D.guardG) | (apply Ab.K.aopsP; first | apply Ab.Pd.nil | (apply Ab.Pd.q; (case hi => rfl)) | (apply Ab.Pd.z; (case hi => rfl)) | (apply Ab.Pd.zU; (case hi => rfl); (case hd => rfl); (case hb => (exact ev_; done))) | (apply Ab.Pd.zG; (case hi => rfl); (case hd => rfl)) | (apply Ab.Pd.st; (case hi => rfl)) | (apply Ab.Pd.qU; (case hi => rfl); (case hd => rfl); (case hb => (exact ev_; done))) | (apply Ab.Pd.qG; (case hi => rfl); (case hd => rfl)) | (apply Ab.Pd.stU; (case hi => rfl); (case hd => rfl); (case hb => (exact ev_; done))) | (apply Ab.Pd.stG; (case hi => rfl); (case hd => rfl))) | (apply Ab.Pd.qs; intro _ _) | (apply Ab.Pd.nxE; (case hE => rfl)) | (apply Ab.Pd.nxR; (case hr => (repeat' (first | exact Ab.Sub.del _ _ | assumption | (apply Ab.Sub.setI; (case hn => simp)) | (apply Ab.Sub.setF; (case hn => exact free_)) | exact (Ab.Sub.del _ _).trans (by assumption))))) | exact ⟨rfl, rfl⟩ | (apply Ab.K.awp; first | (apply AWp.schedS (id := 6) [(0, 2), (1, 1), (2, 2), (3, 2), (4, 1), (5, 1), (6, 2), (7, 1), (8, 2), (9, 2), (10, 1), (11, 1), (12, 0)] [12] [[], [0], [], [0, 1, 2], [0, 1, 2, 3], [0, 1, 2, 3, 4], [], [6], [], [6, 7, 8], [6, 7, 8, 9], [6, 7, 8, 9, 10], [0, 1, 2, 3, 4, 5, 6, 7, 8, 9, 10, 11]] [] (by kernel_rfl) (by kernel_rfl) (by kernel_rfl) rfl) | (apply Xg.s; constructor)) | (apply Ab.K.at_; exact at_) | (apply Ab.K.acall; first | assumption | fail) | (apply Ab.Rg.mk; omega) | (apply Ab.Lt.mk; first | decide | (simp; done) | (simp; omega) | fail) | (apply Ab.Get.mk; first | rfl | (first | rfl | (rw [Int.toNat_natCast, Nat.mul_one]; (first | exact hg | exact hg')) | (rw [Int.toNat_natCast]; (first | exact hg | exact hg')))) | (apply Ab.Nm.mk; first | exact nrm_) | (apply Xg.s; constructor) | (apply Ab.asm; assumption) | rfl | infer_instance | decide))
    all_goals ((first | apply RetQ.ret | apply RetQ.normal); (case he => exact evr_); (case hg => rfl))
    all_goals first | rfl | exact Keeps.fr F1 (plR.nm rfl)
end Go.Proofs.Ytoiplbackllgfaa

/- lines: which may be, which are alike. -/
namespace Go.Proofs.Ytoiplbackllgfaa
set_option linter.unusedVariables false
set_option linter.unusedSimpArgs false
set_option linter.unusedSectionVars false
open Go.RowKit Ab HP
attribute [local irreducible] AOps AOpsD AOpsP QStep NX AOp AWp put nargs AHeap.set At Free ACall ACallE thenQ blockQ roundQ RetQ RetE Src Gr
theorem eqH {x y : Operand} {a b c a' b' c' : Int} {d d' : Bool} : ABin Try.prog .eql 23 x y (.agg #[.int .i64 a, .int .i64 b, .int .i64 c, .bool d]) (.agg #[.int .i64 a', .int .i64 b', .int .i64 c', .bool d']) (.bool (decide ((⟨a, b, c, d⟩ : H) = ⟨a', b', c', d'⟩))) := by
  refine .inr ⟨rfl, rfl, rfl, fun w => ?_⟩
  have u3 := Try.underlying3
  have a3 := Try.isAgg3
  have z3 := Try.sizeOf3
  have u4 := Try.underlying4
  have a4 := Try.isAgg4
  have z4 := Try.sizeOf4
  have hS : Try.prog.underlying 23 = some (.struct (Try.prog.fieldsOf 23)) := by kernel_rfl
  have hp : Try.prog.stoodInHeld 23 = false := by kernel_rfl
  have hg : Try.prog.eqGuardType Try.prog.depth 23 = false := by kernel_rfl
  rw [Sem.run_bind, run_eqGuard_agg w _ _ _ _ _ _ hg, Result.andThen_ok, run_eql_struct, show (10000 : Nat) = 9999 + 1 from rfl, run_equalIn_agg w 9999 23 _ _ hS hp]
  simp only [Program.fieldsOf, Try.underlying23]
  go_simp
  by_cases h1 : a = a' <;> by_cases h2 : b = b' <;> by_cases h3 : c = c' <;> by_cases h4 : d = d' <;> simp [h1, h2, h3, h4]
theorem eqT {x y : Operand} {a a' : Int} {d d' : Bool} : ABin Try.prog .eql 28 x y (.agg #[.int .i64 a, .bool d]) (.agg #[.int .i64 a', .bool d']) (.bool (decide ((⟨a, d⟩ : Tk) = ⟨a', d'⟩))) := by
  refine .inr ⟨rfl, rfl, rfl, fun w => ?_⟩
  have u3 := Try.underlying3
  have a3 := Try.isAgg3
  have z3 := Try.sizeOf3
  have u4 := Try.underlying4
  have a4 := Try.isAgg4
  have z4 := Try.sizeOf4
  have hS : Try.prog.underlying 28 = some (.struct (Try.prog.fieldsOf 28)) := by kernel_rfl
  have hp : Try.prog.stoodInHeld 28 = false := by kernel_rfl
  have hg : Try.prog.eqGuardType Try.prog.depth 28 = false := by kernel_rfl
  rw [Sem.run_bind, run_eqGuard_agg w _ _ _ _ _ _ hg, Result.andThen_ok, run_eql_struct, show (10000 : Nat) = 9999 + 1 from rfl, run_equalIn_agg w 9999 28 _ _ hS hp]
  simp only [Program.fieldsOf, Try.underlying28]
  go_simp
  by_cases h1 : a = a' <;> by_cases h4 : d = d' <;> simp [h1, h4]
structure Ln where
  h : H
  s : Sd
  t : Tk
deriving DecidableEq
def sd0 : Sd := ⟨0, 0, [], 0⟩
def tk0 : Tk := ⟨0, false⟩
def Ln.May (l : Ln) : Prop := (l.h.May ∧ l.s.May ∧ l.t.May) ∧ (l.h.cur ≠ 0 ∨ l.s = sd0 ∧ l.t = tk0)
instance instLnMay (l : Ln) : Decidable l.May := by unfold Ln.May; infer_instance
abbrev lnl (h : H) (s : Sd) (v : Value) (t : Tk) : List Value := [.int .i64 h.last, .int .i64 h.cur, .int .i64 h.prop, .bool h.over, .int .i64 s.base, .int .i64 s.sent, v, .int .i64 s.clock, .int .i64 t.next, .bool t.owes]
def RL (b : AHeap) (c : List Value) (x : Ln) : Prop := ∃ v, c = lnl x.h x.s v x.t ∧ Qt b v x.s.q
theorem datL : Dat 10 RL := ⟨fun b b' c x hs ⟨v, e, h⟩ => ⟨v, e, h.sub datQ hs⟩, fun b c x ⟨v, e, h⟩ y hy => by
  subst e
  simp only [List.mem_cons, List.not_mem_nil, or_false] at hy
  rcases hy with rfl | rfl | rfl | rfl | rfl | rfl | rfl | rfl | rfl | rfl
  all_goals first | trivial | exact h.nm, by decide⟩
theorem sd0_iff {base sent clock : Int} {q : List (List Int)} : ((base = 0 ∧ sent = 0 ∧ clock = 0) ∧ q = []) ↔ (⟨base, sent, q, clock⟩ : Sd) = sd0 := by
  unfold sd0; simp only [Sd.mk.injEq]
  exact ⟨fun ⟨⟨a, b, c⟩, d⟩ => ⟨a, b, d, c⟩, fun ⟨a, b, d, c⟩ => ⟨⟨a, b, c⟩, d⟩⟩
set_option maxRecDepth 100000 in
set_option maxHeartbeats 4000000 in
theorem checkL' {s : AHeap} {last cur prop base sent clock next : Int} {over owes : Bool} {v : Value} {q : List (List Int)} (h : Qt s v q) (hq : q.length ≤ 1000000000) :
    ACall Try.prog 14 [.agg #[.int .i64 last, .int .i64 cur, .int .i64 prop, .bool over, .int .i64 base, .int .i64 sent, v, .int .i64 clock, .int .i64 next, .bool owes]] s (.int .i64 (if Ln.May ⟨⟨last, cur, prop, over⟩, ⟨base, sent, q, clock⟩, ⟨next, owes⟩⟩ then 0 else 1)) s := by
  refine ACall.make Try.func14 rfl (by kernel_rfl) (by decide) rfl (fun N hN0 => ?_)
  have hT : Top N s := hN0
  obtain ⟨A, cap, rfl, hcap⟩ := h.isl
  obtain ⟨s1, hs1⟩ : ∃ s1 : AHeap, s1 = s.set N (.cells true 1 [.int .i64 last, .int .i64 cur, .int .i64 prop, .bool over, .int .i64 base, .int .i64 sent, .slice A q.length cap, .int .i64 clock, .int .i64 next, .bool owes]) := ⟨_, rfl⟩
  have F1 : Fr s1 s [] := by rw [hs1]; exact Fr.new (hT.free (Nat.le_refl _)) (Fr.refl _ _)
  have aN : At s1 N (.cells true 1 [.int .i64 last, .int .i64 cur, .int .i64 prop, .bool over, .int .i64 base, .int .i64 sent, .slice A q.length cap, .int .i64 clock, .int .i64 next, .bool owes]) := by rw [hs1]; exact At.hit
  have h1 : Qt s1 (.slice A q.length cap) q := h.sub datQ fun i c hc => F1 i (by simp) c hc
  have c41 := same41' (base := base) (sent := sent) (clock := clock) (base' := 0) (sent' := 0) (clock' := 0) h1 (Sl.nil : Qt s1 (.slice none 0 0) []) (by omega) (by simp)
  rw [decide_eq_decide.2 sd0_iff] at c41
  have c43 := checkS' (base := base) (sent := sent) (clock := clock) h1 hq
  have c42 := checkH (s := s1) (h := ⟨last, cur, prop, over⟩)
  have c44 := checkT (s := s1) (t := ⟨next, owes⟩)
  unfold hv at c42
  unfold tv at c44

  by_cases hh : H.May ⟨last, cur, prop, over⟩
  case neg =>
    rw [if_neg hh] at c42; rw [if_neg (fun h : Ln.May _ => hh h.1.1)]
    (repeat' (first | (apply Ab.K.ev; exact ev_) | (apply Ab.K.aops; first | (apply Xg.s; constructor) | (apply Ab.S.guardU; (case hd => rfl); (case hb => (exact ev_; done))) | apply Ab.S.guardG) | (apply Ab.K.aop; first | (first | (apply Ab.O.boxA N; (case hx => exact ev_); (case hid => exact frees_)) | (apply Ab.O.bin; (case hx => exact ev_); (case hy => exact ev_); (case hv => first | exact eqH | exact eqT))) | (apply Og.s; constructor)) | (apply Ab.K.gk; first | (apply Xg.s; constructor) | (apply Ab.gY; case hw => assumption) | (apply Ab.gNT; case hw => assumption) | (apply Ab.gNF; case hw => assumption) | ((first | apply Ab.gD | apply Ab.gDN); all_goals (intro _ _; (first | contradiction | (exfalso; omega) | skip)))) | (apply Ab.K.awp; first | (apply Xg.s; constructor)) | (apply Ab.K.at_; exact at_) | (apply Ab.K.acall; first | assumption | first | exact c41 | exact c43 | exact c42 | exact c44 | (rw [← hs1]; first | exact c41 | exact c43 | exact c42 | exact c44)) | (apply Ab.Rg.mk; omega) | (apply Ab.Lt.mk; first | decide | (simp; done) | (simp; omega) | fail) | (apply Ab.Get.mk; first | rfl | fail) | (apply Ab.Nm.mk; first | exact nrm_) | (apply Xg.s; constructor) | (apply Ab.asm; assumption) | rfl | infer_instance | decide))
    all_goals ((first | apply RetQ.ret | apply RetQ.normal); (case he => exact evr_); (case hg => rfl))
    all_goals first | rfl | exact Keeps.fr F1 (plR.nm rfl) | (rw [hs1] at F1; exact Keeps.fr F1 (plR.nm rfl))
  rw [if_pos hh] at c42
  by_cases hs : Sd.May ⟨base, sent, q, clock⟩
  case neg =>
    rw [if_neg hs] at c43; rw [if_neg (fun h : Ln.May _ => hs h.1.2.1)]
    (repeat' (first | (apply Ab.K.ev; exact ev_) | (apply Ab.K.aops; first | (apply Xg.s; constructor) | (apply Ab.S.guardU; (case hd => rfl); (case hb => (exact ev_; done))) | apply Ab.S.guardG) | (apply Ab.K.aop; first | (first | (apply Ab.O.boxA N; (case hx => exact ev_); (case hid => exact frees_)) | (apply Ab.O.bin; (case hx => exact ev_); (case hy => exact ev_); (case hv => first | exact eqH | exact eqT))) | (apply Og.s; constructor)) | (apply Ab.K.gk; first | (apply Xg.s; constructor) | (apply Ab.gY; case hw => assumption) | (apply Ab.gNT; case hw => assumption) | (apply Ab.gNF; case hw => assumption) | ((first | apply Ab.gD | apply Ab.gDN); all_goals (intro _ _; (first | contradiction | (exfalso; omega) | skip)))) | (apply Ab.K.awp; first | (apply Xg.s; constructor)) | (apply Ab.K.at_; exact at_) | (apply Ab.K.acall; first | assumption | first | exact c41 | exact c43 | exact c42 | exact c44 | (rw [← hs1]; first | exact c41 | exact c43 | exact c42 | exact c44)) | (apply Ab.Rg.mk; omega) | (apply Ab.Lt.mk; first | decide | (simp; done) | (simp; omega) | fail) | (apply Ab.Get.mk; first | rfl | fail) | (apply Ab.Nm.mk; first | exact nrm_) | (apply Xg.s; constructor) | (apply Ab.asm; assumption) | rfl | infer_instance | decide))
    all_goals ((first | apply RetQ.ret | apply RetQ.normal); (case he => exact evr_); (case hg => rfl))
    all_goals first | rfl | exact Keeps.fr F1 (plR.nm rfl) | (rw [hs1] at F1; exact Keeps.fr F1 (plR.nm rfl))
  rw [if_pos hs] at c43
  by_cases ht : Tk.May ⟨next, owes⟩
  case neg =>
    rw [if_neg ht] at c44; rw [if_neg (fun h : Ln.May _ => ht h.1.2.2)]
    (repeat' (first | (apply Ab.K.ev; exact ev_) | (apply Ab.K.aops; first | (apply Xg.s; constructor) | (apply Ab.S.guardU; (case hd => rfl); (case hb => (exact ev_; done))) | apply Ab.S.guardG) | (apply Ab.K.aop; first | (first | (apply Ab.O.boxA N; (case hx => exact ev_); (case hid => exact frees_)) | (apply Ab.O.bin; (case hx => exact ev_); (case hy => exact ev_); (case hv => first | exact eqH | exact eqT))) | (apply Og.s; constructor)) | (apply Ab.K.gk; first | (apply Xg.s; constructor) | (apply Ab.gY; case hw => assumption) | (apply Ab.gNT; case hw => assumption) | (apply Ab.gNF; case hw => assumption) | ((first | apply Ab.gD | apply Ab.gDN); all_goals (intro _ _; (first | contradiction | (exfalso; omega) | skip)))) | (apply Ab.K.awp; first | (apply Xg.s; constructor)) | (apply Ab.K.at_; exact at_) | (apply Ab.K.acall; first | assumption | first | exact c41 | exact c43 | exact c42 | exact c44 | (rw [← hs1]; first | exact c41 | exact c43 | exact c42 | exact c44)) | (apply Ab.Rg.mk; omega) | (apply Ab.Lt.mk; first | decide | (simp; done) | (simp; omega) | fail) | (apply Ab.Get.mk; first | rfl | fail) | (apply Ab.Nm.mk; first | exact nrm_) | (apply Xg.s; constructor) | (apply Ab.asm; assumption) | rfl | infer_instance | decide))
    all_goals ((first | apply RetQ.ret | apply RetQ.normal); (case he => exact evr_); (case hg => rfl))
    all_goals first | rfl | exact Keeps.fr F1 (plR.nm rfl) | (rw [hs1] at F1; exact Keeps.fr F1 (plR.nm rfl))
  rw [if_pos ht] at c44
  by_cases hc : cur = 0
  case neg =>
    rw [if_pos (show Ln.May _ from ⟨⟨hh, hs, ht⟩, .inl hc⟩)]
    (repeat' (first | (apply Ab.K.ev; exact ev_) | (apply Ab.K.aops; first | (apply Xg.s; constructor) | (apply Ab.S.guardU; (case hd => rfl); (case hb => (exact ev_; done))) | apply Ab.S.guardG) | (apply Ab.K.aop; first | (first | (apply Ab.O.boxA N; (case hx => exact ev_); (case hid => exact frees_)) | (apply Ab.O.bin; (case hx => exact ev_); (case hy => exact ev_); (case hv => first | exact eqH | exact eqT))) | (apply Og.s; constructor)) | (apply Ab.K.gk; first | (apply Xg.s; constructor) | (apply Ab.gY; case hw => assumption) | (apply Ab.gNT; case hw => assumption) | (apply Ab.gNF; case hw => assumption) | ((first | apply Ab.gD | apply Ab.gDN); all_goals (intro _ _; (first | contradiction | (exfalso; omega) | skip)))) | (apply Ab.K.awp; first | (apply Xg.s; constructor)) | (apply Ab.K.at_; exact at_) | (apply Ab.K.acall; first | assumption | first | exact c41 | exact c43 | exact c42 | exact c44 | (rw [← hs1]; first | exact c41 | exact c43 | exact c42 | exact c44)) | (apply Ab.Rg.mk; omega) | (apply Ab.Lt.mk; first | decide | (simp; done) | (simp; omega) | fail) | (apply Ab.Get.mk; first | rfl | fail) | (apply Ab.Nm.mk; first | exact nrm_) | (apply Xg.s; constructor) | (apply Ab.asm; assumption) | rfl | infer_instance | decide))
    all_goals ((first | apply RetQ.ret | apply RetQ.normal); (case he => exact evr_); (case hg => rfl))
    all_goals first | rfl | exact Keeps.fr F1 (plR.nm rfl) | (rw [hs1] at F1; exact Keeps.fr F1 (plR.nm rfl))
  by_cases hi : (⟨base, sent, q, clock⟩ : Sd) = sd0
  case neg =>
    rw [if_neg (fun h : Ln.May _ => h.2.elim (fun e => e hc) (fun e => hi e.1))]
    rw [decide_eq_false hi] at c41
    (repeat' (first | (apply Ab.K.ev; exact ev_) | (apply Ab.K.aops; first | (apply Xg.s; constructor) | (apply Ab.S.guardU; (case hd => rfl); (case hb => (exact ev_; done))) | apply Ab.S.guardG) | (apply Ab.K.aop; first | (first | (apply Ab.O.boxA N; (case hx => exact ev_); (case hid => exact frees_)) | (apply Ab.O.bin; (case hx => exact ev_); (case hy => exact ev_); (case hv => first | exact eqH | exact eqT))) | (apply Og.s; constructor)) | (apply Ab.K.gk; first | (apply Xg.s; constructor) | (apply Ab.gY; case hw => assumption) | (apply Ab.gNT; case hw => assumption) | (apply Ab.gNF; case hw => assumption) | ((first | apply Ab.gD | apply Ab.gDN); all_goals (intro _ _; (first | contradiction | (exfalso; omega) | skip)))) | (apply Ab.K.awp; first | (apply Xg.s; constructor)) | (apply Ab.K.at_; exact at_) | (apply Ab.K.acall; first | assumption | first | exact c41 | exact c43 | exact c42 | exact c44 | (rw [← hs1]; first | exact c41 | exact c43 | exact c42 | exact c44)) | (apply Ab.Rg.mk; omega) | (apply Ab.Lt.mk; first | decide | (simp; done) | (simp; omega) | fail) | (apply Ab.Get.mk; first | rfl | fail) | (apply Ab.Nm.mk; first | exact nrm_) | (apply Xg.s; constructor) | (apply Ab.asm; assumption) | rfl | infer_instance | decide))
    all_goals ((first | apply RetQ.ret | apply RetQ.normal); (case he => exact evr_); (case hg => rfl))
    all_goals first | rfl | exact Keeps.fr F1 (plR.nm rfl) | (rw [hs1] at F1; exact Keeps.fr F1 (plR.nm rfl))
  rw [decide_eq_true hi] at c41
  by_cases hj : (⟨next, owes⟩ : Tk) = ⟨0, false⟩
  case' pos => rw [if_pos (show Ln.May _ from ⟨⟨hh, hs, ht⟩, .inr ⟨hi, hj⟩⟩)]
  case' neg => rw [if_neg (fun h : Ln.May _ => h.2.elim (fun e => e hc) (fun e => hj e.2))]
  all_goals (repeat' (first | (apply Ab.K.ev; exact ev_) | (apply Ab.K.aops; first | (apply Xg.s; constructor) | (apply Ab.S.guardU; (case hd => rfl); (case hb => (exact ev_; done))) | apply Ab.S.guardG) | (apply Ab.K.aop; first | (first | (apply Ab.O.boxA N; (case hx => exact ev_); (case hid => exact frees_)) | (apply Ab.O.bin; (case hx => exact ev_); (case hy => exact ev_); (case hv => first | exact eqH | exact eqT))) | (apply Og.s; constructor)) | (apply Ab.K.gk; first | (apply Xg.s; constructor) | (apply Ab.gY; case hw => assumption) | (apply Ab.gNT; case hw => assumption) | (apply Ab.gNF; case hw => assumption) | ((first | apply Ab.gD | apply Ab.gDN); all_goals (intro _ _; (first | contradiction | (exfalso; omega) | skip)))) | (apply Ab.K.awp; first | (apply Xg.s; constructor)) | (apply Ab.K.at_; exact at_) | (apply Ab.K.acall; first | assumption | first | exact c41 | exact c43 | exact c42 | exact c44 | (rw [← hs1]; first | exact c41 | exact c43 | exact c42 | exact c44)) | (apply Ab.Rg.mk; omega) | (apply Ab.Lt.mk; first | decide | (simp; done) | (simp; omega) | fail) | (apply Ab.Get.mk; first | rfl | fail) | (apply Ab.Nm.mk; first | exact nrm_) | (apply Xg.s; constructor) | (apply Ab.asm; assumption) | rfl | infer_instance | decide))
  all_goals ((first | apply RetQ.ret | apply RetQ.normal); (case he => exact evr_); (case hg => rfl))
  all_goals first | rfl | exact Keeps.fr F1 (plR.nm rfl) | (rw [hs1] at F1; exact Keeps.fr F1 (plR.nm rfl))
theorem checkL {s : AHeap} {c : List Value} {x : Ln} (h : RL s c x) (hq : x.s.q.length ≤ 1000000000) : ACall Try.prog 14 [.agg c.toArray] s (.int .i64 (if x.May then 0 else 1)) s := by
  obtain ⟨v, rfl, hv⟩ := h
  exact checkL' hv hq
set_option maxRecDepth 100000 in
set_option maxHeartbeats 4000000 in
theorem mayL' {s : AHeap} {last cur prop base sent clock next : Int} {over owes : Bool} {v : Value} {q : List (List Int)} (h : Qt s v q) (hq : q.length ≤ 1000000000) :
    ACall Try.prog 11 [.agg #[.int .i64 last, .int .i64 cur, .int .i64 prop, .bool over, .int .i64 base, .int .i64 sent, v, .int .i64 clock, .int .i64 next, .bool owes]] s (.bool (decide (Ln.May ⟨⟨last, cur, prop, over⟩, ⟨base, sent, q, clock⟩, ⟨next, owes⟩⟩))) s := by
  refine ACall.make Try.func11 rfl (by kernel_rfl) (by decide) rfl (fun N hN0 => ?_)
  have hT : Top N s := hN0
  obtain ⟨A, cap, rfl, hcap⟩ := h.isl
  obtain ⟨s1, hs1⟩ : ∃ s1 : AHeap, s1 = s.set N (.cells true 1 [.int .i64 last, .int .i64 cur, .int .i64 prop, .bool over, .int .i64 base, .int .i64 sent, .slice A q.length cap, .int .i64 clock, .int .i64 next, .bool owes]) := ⟨_, rfl⟩
  have F1 : Fr s1 s [] := by rw [hs1]; exact Fr.new (hT.free (Nat.le_refl _)) (Fr.refl _ _)
  have aN : At s1 N (.cells true 1 [.int .i64 last, .int .i64 cur, .int .i64 prop, .bool over, .int .i64 base, .int .i64 sent, .slice A q.length cap, .int .i64 clock, .int .i64 next, .bool owes]) := by rw [hs1]; exact At.hit
  have h1 : Qt s1 (.slice A q.length cap) q := h.sub datQ fun i c hc => F1 i (by simp) c hc
  have c41 := same40' (base := base) (sent := sent) (clock := clock) (base' := 0) (sent' := 0) (clock' := 0) h1 (Sl.nil : Qt s1 (.slice none 0 0) []) (by omega) (by simp)
  rw [decide_eq_decide.2 sd0_iff] at c41
  have c43 := mayS' (base := base) (sent := sent) (clock := clock) h1 hq
  have c42 := mayH (s := s1) (h := ⟨last, cur, prop, over⟩)
  have c44 := mayT (s := s1) (t := ⟨next, owes⟩)
  unfold hv at c42
  unfold tv at c44
  by_cases hh : H.May ⟨last, cur, prop, over⟩
  case neg =>
    rw [decide_eq_false hh] at c42; rw [decide_eq_false (fun h : Ln.May _ => hh h.1.1)]
    (repeat' (first | (apply Ab.K.ev; exact ev_) | (apply Ab.K.aops; first | (apply Xg.s; constructor) | (apply Ab.S.guardU; (case hd => rfl); (case hb => (exact ev_; done))) | apply Ab.S.guardG) | (apply Ab.K.aop; first | (first | (apply Ab.O.boxA N; (case hx => exact ev_); (case hid => exact frees_)) | (apply Ab.O.bin; (case hx => exact ev_); (case hy => exact ev_); (case hv => first | exact eqH | exact eqT))) | (apply Og.s; constructor)) | (apply Ab.K.gk; first | (apply Xg.s; constructor) | (apply Ab.gY; case hw => assumption) | (apply Ab.gNT; case hw => assumption) | (apply Ab.gNF; case hw => assumption) | ((first | apply Ab.gD | apply Ab.gDN); all_goals (intro _ _; (first | contradiction | (exfalso; omega) | skip)))) | (apply Ab.K.awp; first | (apply Xg.s; constructor)) | (apply Ab.K.at_; exact at_) | (apply Ab.K.acall; first | assumption | first | exact c41 | exact c43 | exact c42 | exact c44 | (rw [← hs1]; first | exact c41 | exact c43 | exact c42 | exact c44)) | (apply Ab.Rg.mk; omega) | (apply Ab.Lt.mk; first | decide | (simp; done) | (simp; omega) | fail) | (apply Ab.Get.mk; first | rfl | fail) | (apply Ab.Nm.mk; first | exact nrm_) | (apply Xg.s; constructor) | (apply Ab.asm; assumption) | rfl | infer_instance | decide))
    all_goals ((first | apply RetQ.ret | apply RetQ.normal); (case he => exact evr_); (case hg => rfl))
    all_goals first | rfl | exact Keeps.fr F1 (plR.nm rfl) | (rw [hs1] at F1; exact Keeps.fr F1 (plR.nm rfl))
  rw [decide_eq_true hh] at c42
  by_cases hs : Sd.May ⟨base, sent, q, clock⟩
  case neg =>
    rw [decide_eq_false hs] at c43; rw [decide_eq_false (fun h : Ln.May _ => hs h.1.2.1)]
    (repeat' (first | (apply Ab.K.ev; exact ev_) | (apply Ab.K.aops; first | (apply Xg.s; constructor) | (apply Ab.S.guardU; (case hd => rfl); (case hb => (exact ev_; done))) | apply Ab.S.guardG) | (apply Ab.K.aop; first | (first | (apply Ab.O.boxA N; (case hx => exact ev_); (case hid => exact frees_)) | (apply Ab.O.bin; (case hx => exact ev_); (case hy => exact ev_); (case hv => first | exact eqH | exact eqT))) | (apply Og.s; constructor)) | (apply Ab.K.gk; first | (apply Xg.s; constructor) | (apply Ab.gY; case hw => assumption) | (apply Ab.gNT; case hw => assumption) | (apply Ab.gNF; case hw => assumption) | ((first | apply Ab.gD | apply Ab.gDN); all_goals (intro _ _; (first | contradiction | (exfalso; omega) | skip)))) | (apply Ab.K.awp; first | (apply Xg.s; constructor)) | (apply Ab.K.at_; exact at_) | (apply Ab.K.acall; first | assumption | first | exact c41 | exact c43 | exact c42 | exact c44 | (rw [← hs1]; first | exact c41 | exact c43 | exact c42 | exact c44)) | (apply Ab.Rg.mk; omega) | (apply Ab.Lt.mk; first | decide | (simp; done) | (simp; omega) | fail) | (apply Ab.Get.mk; first | rfl | fail) | (apply Ab.Nm.mk; first | exact nrm_) | (apply Xg.s; constructor) | (apply Ab.asm; assumption) | rfl | infer_instance | decide))
    all_goals ((first | apply RetQ.ret | apply RetQ.normal); (case he => exact evr_); (case hg => rfl))
    all_goals first | rfl | exact Keeps.fr F1 (plR.nm rfl) | (rw [hs1] at F1; exact Keeps.fr F1 (plR.nm rfl))
  rw [decide_eq_true hs] at c43
  by_cases ht : Tk.May ⟨next, owes⟩
  case neg =>
    rw [decide_eq_false ht] at c44; rw [decide_eq_false (fun h : Ln.May _ => ht h.1.2.2)]
    (repeat' (first | (apply Ab.K.ev; exact ev_) | (apply Ab.K.aops; first | (apply Xg.s; constructor) | (apply Ab.S.guardU; (case hd => rfl); (case hb => (exact ev_; done))) | apply Ab.S.guardG) | (apply Ab.K.aop; first | (first | (apply Ab.O.boxA N; (case hx => exact ev_); (case hid => exact frees_)) | (apply Ab.O.bin; (case hx => exact ev_); (case hy => exact ev_); (case hv => first | exact eqH | exact eqT))) | (apply Og.s; constructor)) | (apply Ab.K.gk; first | (apply Xg.s; constructor) | (apply Ab.gY; case hw => assumption) | (apply Ab.gNT; case hw => assumption) | (apply Ab.gNF; case hw => assumption) | ((first | apply Ab.gD | apply Ab.gDN); all_goals (intro _ _; (first | contradiction | (exfalso; omega) | skip)))) | (apply Ab.K.awp; first | (apply Xg.s; constructor)) | (apply Ab.K.at_; exact at_) | (apply Ab.K.acall; first | assumption | first | exact c41 | exact c43 | exact c42 | exact c44 | (rw [← hs1]; first | exact c41 | exact c43 | exact c42 | exact c44)) | (apply Ab.Rg.mk; omega) | (apply Ab.Lt.mk; first | decide | (simp; done) | (simp; omega) | fail) | (apply Ab.Get.mk; first | rfl | fail) | (apply Ab.Nm.mk; first | exact nrm_) | (apply Xg.s; constructor) | (apply Ab.asm; assumption) | rfl | infer_instance | decide))
    all_goals ((first | apply RetQ.ret | apply RetQ.normal); (case he => exact evr_); (case hg => rfl))
    all_goals first | rfl | exact Keeps.fr F1 (plR.nm rfl) | (rw [hs1] at F1; exact Keeps.fr F1 (plR.nm rfl))
  rw [decide_eq_true ht] at c44
  have hc0 : cur = 0 ∨ 0 < cur := by
    simp only [H.May] at hh
    obtain ⟨⟨a, _⟩, ⟨_, e, _⟩ | ⟨_, ⟨e, f, _⟩ | ⟨e, _⟩⟩⟩ := hh
    all_goals omega
  by_cases hc : cur = 0
  case neg =>
    rw [decide_eq_true (show Ln.May _ from ⟨⟨hh, hs, ht⟩, .inl hc⟩)]
    (repeat' (first | (apply Ab.K.ev; exact ev_) | (apply Ab.K.aops; first | (apply Xg.s; constructor) | (apply Ab.S.guardU; (case hd => rfl); (case hb => (exact ev_; done))) | apply Ab.S.guardG) | (apply Ab.K.aop; first | (first | (apply Ab.O.boxA N; (case hx => exact ev_); (case hid => exact frees_)) | (apply Ab.O.bin; (case hx => exact ev_); (case hy => exact ev_); (case hv => first | exact eqH | exact eqT))) | (apply Og.s; constructor)) | (apply Ab.K.gk; first | (apply Xg.s; constructor) | (apply Ab.gY; case hw => assumption) | (apply Ab.gNT; case hw => assumption) | (apply Ab.gNF; case hw => assumption) | ((first | apply Ab.gD | apply Ab.gDN); all_goals (intro _ _; (first | contradiction | (exfalso; omega) | skip)))) | (apply Ab.K.awp; first | (apply Xg.s; constructor)) | (apply Ab.K.at_; exact at_) | (apply Ab.K.acall; first | assumption | first | exact c41 | exact c43 | exact c42 | exact c44 | (rw [← hs1]; first | exact c41 | exact c43 | exact c42 | exact c44)) | (apply Ab.Rg.mk; omega) | (apply Ab.Lt.mk; first | decide | (simp; done) | (simp; omega) | fail) | (apply Ab.Get.mk; first | rfl | fail) | (apply Ab.Nm.mk; first | exact nrm_) | (apply Xg.s; constructor) | (apply Ab.asm; assumption) | rfl | infer_instance | decide))
    all_goals ((first | apply RetQ.ret | apply RetQ.normal); (case he => exact evr_); (case hg => rfl))
    all_goals first | rfl | exact Keeps.fr F1 (plR.nm rfl) | (rw [hs1] at F1; exact Keeps.fr F1 (plR.nm rfl))
  by_cases hi : (⟨base, sent, q, clock⟩ : Sd) = sd0
  case neg =>
    rw [decide_eq_false (fun h : Ln.May _ => h.2.elim (fun e => e hc) (fun e => hi e.1))]
    rw [decide_eq_false hi] at c41
    (repeat' (first | (apply Ab.K.ev; exact ev_) | (apply Ab.K.aops; first | (apply Xg.s; constructor) | (apply Ab.S.guardU; (case hd => rfl); (case hb => (exact ev_; done))) | apply Ab.S.guardG) | (apply Ab.K.aop; first | (first | (apply Ab.O.boxA N; (case hx => exact ev_); (case hid => exact frees_)) | (apply Ab.O.bin; (case hx => exact ev_); (case hy => exact ev_); (case hv => first | exact eqH | exact eqT))) | (apply Og.s; constructor)) | (apply Ab.K.gk; first | (apply Xg.s; constructor) | (apply Ab.gY; case hw => assumption) | (apply Ab.gNT; case hw => assumption) | (apply Ab.gNF; case hw => assumption) | ((first | apply Ab.gD | apply Ab.gDN); all_goals (intro _ _; (first | contradiction | (exfalso; omega) | skip)))) | (apply Ab.K.awp; first | (apply Xg.s; constructor)) | (apply Ab.K.at_; exact at_) | (apply Ab.K.acall; first | assumption | first | exact c41 | exact c43 | exact c42 | exact c44 | (rw [← hs1]; first | exact c41 | exact c43 | exact c42 | exact c44)) | (apply Ab.Rg.mk; omega) | (apply Ab.Lt.mk; first | decide | (simp; done) | (simp; omega) | fail) | (apply Ab.Get.mk; first | rfl | fail) | (apply Ab.Nm.mk; first | exact nrm_) | (apply Xg.s; constructor) | (apply Ab.asm; assumption) | rfl | infer_instance | decide))
    all_goals ((first | apply RetQ.ret | apply RetQ.normal); (case he => exact evr_); (case hg => rfl))
    all_goals first | rfl | exact Keeps.fr F1 (plR.nm rfl) | (rw [hs1] at F1; exact Keeps.fr F1 (plR.nm rfl))
  rw [decide_eq_true hi] at c41
  rw [show decide (Ln.May ⟨⟨last, cur, prop, over⟩, ⟨base, sent, q, clock⟩, ⟨next, owes⟩⟩) = decide ((⟨next, owes⟩ : Tk) = ⟨0, false⟩) from decide_eq_decide.2 ⟨fun h => h.2.elim (fun e => absurd hc e) (fun e => e.2), fun e => ⟨⟨hh, hs, ht⟩, .inr ⟨hi, e⟩⟩⟩]
  (repeat' (first | (apply Ab.K.ev; exact ev_) | (apply Ab.K.aops; first | (apply Xg.s; constructor) | (apply Ab.S.guardU; (case hd => rfl); (case hb => (exact ev_; done))) | apply Ab.S.guardG) | (apply Ab.K.aop; first | (first | (apply Ab.O.boxA N; (case hx => exact ev_); (case hid => exact frees_)) | (apply Ab.O.bin; (case hx => exact ev_); (case hy => exact ev_); (case hv => first | exact eqH | exact eqT))) | (apply Og.s; constructor)) | (apply Ab.K.gk; first | (apply Xg.s; constructor) | (apply Ab.gY; case hw => assumption) | (apply Ab.gNT; case hw => assumption) | (apply Ab.gNF; case hw => assumption) | ((first | apply Ab.gD | apply Ab.gDN); all_goals (intro _ _; (first | contradiction | (exfalso; omega) | skip)))) | (apply Ab.K.awp; first | (apply Xg.s; constructor)) | (apply Ab.K.at_; exact at_) | (apply Ab.K.acall; first | assumption | first | exact c41 | exact c43 | exact c42 | exact c44 | (rw [← hs1]; first | exact c41 | exact c43 | exact c42 | exact c44)) | (apply Ab.Rg.mk; omega) | (apply Ab.Lt.mk; first | decide | (simp; done) | (simp; omega) | fail) | (apply Ab.Get.mk; first | rfl | fail) | (apply Ab.Nm.mk; first | exact nrm_) | (apply Xg.s; constructor) | (apply Ab.asm; assumption) | rfl | infer_instance | decide))
  all_goals ((first | apply RetQ.ret | apply RetQ.normal); (case he => exact evr_); (case hg => rfl))
  all_goals first | rfl | exact Keeps.fr F1 (plR.nm rfl) | (simp only [resV]; congr)
theorem mayL {s : AHeap} {c : List Value} {x : Ln} (h : RL s c x) (hq : x.s.q.length ≤ 1000000000) : ACall Try.prog 11 [.agg c.toArray] s (.bool (decide x.May)) s := by
  obtain ⟨v, rfl, hv⟩ := h
  exact mayL' hv hq
set_option maxRecDepth 100000 in
set_option maxHeartbeats 4000000 in
theorem same17' {s : AHeap} {h h' : H} {x x' : Sd} {t t' : Tk} {v w : Value} (hv : Qt s v x.q) (hw : Qt s w x'.q) (hq : x.q.length ≤ 1000000000) (hr : x'.q.length ≤ 1000000000) :
    ACall Try.prog 17 [.agg (lnl h x v t).toArray, .agg (lnl h' x' w t').toArray] s (.bool (decide ((⟨h, x, t⟩ : Ln) = ⟨h', x', t'⟩))) s := by
  obtain ⟨last, cur, prop, over⟩ := h
  obtain ⟨last', cur', prop', over'⟩ := h'
  obtain ⟨base, sent, q, clock⟩ := x
  obtain ⟨base', sent', q', clock'⟩ := x'
  obtain ⟨next, owes⟩ := t
  obtain ⟨next', owes'⟩ := t'
  change ACall Try.prog 17 [.agg #[.int .i64 last, .int .i64 cur, .int .i64 prop, .bool over, .int .i64 base, .int .i64 sent, v, .int .i64 clock, .int .i64 next, .bool owes], .agg #[.int .i64 last', .int .i64 cur', .int .i64 prop', .bool over', .int .i64 base', .int .i64 sent', w, .int .i64 clock', .int .i64 next', .bool owes']] s _ s
  refine ACall.make Try.func17 rfl (by kernel_rfl) (by decide) rfl (fun N hN0 => ?_)
  have hT : Top N s := hN0
  obtain ⟨A, cap, rfl, hcap⟩ := hv.isl
  obtain ⟨B, cap2, rfl, hcap2⟩ := hw.isl
  obtain ⟨s1, hs1⟩ : ∃ s1 : AHeap, s1 = (s.set N (.cells true 1 [.int .i64 last, .int .i64 cur, .int .i64 prop, .bool over, .int .i64 base, .int .i64 sent, .slice A q.length cap, .int .i64 clock, .int .i64 next, .bool owes])).set (N + 1) (.cells true 1 [.int .i64 last', .int .i64 cur', .int .i64 prop', .bool over', .int .i64 base', .int .i64 sent', .slice B q'.length cap2, .int .i64 clock', .int .i64 next', .bool owes']) := ⟨_, rfl⟩
  have F1 : Fr s1 s [] := by rw [hs1]; exact Fr.new (hT.free (by omega)) (Fr.new (hT.free (Nat.le_refl _)) (Fr.refl _ _))
  have hS : Sub s s1 := fun i c hc => F1 i (by simp) c hc
  have cc := same40' (base := base) (sent := sent) (clock := clock) (base' := base') (sent' := sent') (clock' := clock') (hv.sub datQ hS) (hw.sub datQ hS) hq hr
  have e1 : ((base = base' ∧ sent = sent' ∧ clock = clock') ∧ q = q') ↔ (⟨base, sent, q, clock⟩ : Sd) = ⟨base', sent', q', clock'⟩ := by
    simp only [Sd.mk.injEq]
    exact ⟨fun ⟨⟨a, b, c⟩, d⟩ => ⟨a, b, d, c⟩, fun ⟨a, b, d, c⟩ => ⟨⟨a, b, c⟩, d⟩⟩
  rw [decide_eq_decide.2 e1] at cc

  by_cases hh : (⟨last, cur, prop, over⟩ : H) = ⟨last', cur', prop', over'⟩
  case neg =>
    rw [decide_eq_false (fun e : (⟨_, _, _⟩ : Ln) = _ => hh (congrArg Ln.h e))]
    (repeat' (first | (apply Ab.K.ev; exact ev_) | (apply Ab.K.aops; first | (apply Xg.s; constructor) | (apply Ab.S.guardU; (case hd => rfl); (case hb => (exact ev_; done))) | apply Ab.S.guardG) | (apply Ab.K.aop; first | (first | (apply Ab.O.boxA N; (case hx => exact ev_); (case hid => exact frees_)) | (apply Ab.O.boxA (N + 1); (case hx => exact ev_); (case hid => exact frees_)) | (apply Ab.O.bin; (case hx => exact ev_); (case hy => exact ev_); (case hv => first | exact eqH | exact eqT))) | (apply Og.s; constructor)) | (apply Ab.K.gk; first | (apply Xg.s; constructor) | (apply Ab.gY; case hw => assumption) | (apply Ab.gNT; case hw => assumption) | (apply Ab.gNF; case hw => assumption) | ((first | apply Ab.gD | apply Ab.gDN); all_goals (intro _ _; (first | contradiction | (exfalso; omega) | skip)))) | (apply Ab.K.awp; first | (apply Xg.s; constructor)) | (apply Ab.K.at_; exact at_) | (apply Ab.K.acall; first | assumption | (rw [← hs1]; exact cc)) | (apply Ab.Rg.mk; omega) | (apply Ab.Lt.mk; first | decide | (simp; done) | (simp; omega) | fail) | (apply Ab.Get.mk; first | rfl | fail) | (apply Ab.Nm.mk; first | exact nrm_) | (apply Xg.s; constructor) | (apply Ab.asm; assumption) | rfl | infer_instance | decide))
    all_goals ((first | apply RetQ.ret | apply RetQ.normal); (case he => exact evr_); (case hg => rfl))
    all_goals first | rfl | exact Keeps.fr F1 (plR.nm rfl) | (rw [hs1] at F1; exact Keeps.fr F1 (plR.nm rfl))
  by_cases ht : (⟨next, owes⟩ : Tk) = ⟨next', owes'⟩
  case neg =>
    rw [decide_eq_false (fun e : (⟨_, _, _⟩ : Ln) = _ => ht (congrArg Ln.t e))]
    (repeat' (first | (apply Ab.K.ev; exact ev_) | (apply Ab.K.aops; first | (apply Xg.s; constructor) | (apply Ab.S.guardU; (case hd => rfl); (case hb => (exact ev_; done))) | apply Ab.S.guardG) | (apply Ab.K.aop; first | (first | (apply Ab.O.boxA N; (case hx => exact ev_); (case hid => exact frees_)) | (apply Ab.O.boxA (N + 1); (case hx => exact ev_); (case hid => exact frees_)) | (apply Ab.O.bin; (case hx => exact ev_); (case hy => exact ev_); (case hv => first | exact eqH | exact eqT))) | (apply Og.s; constructor)) | (apply Ab.K.gk; first | (apply Xg.s; constructor) | (apply Ab.gY; case hw => assumption) | (apply Ab.gNT; case hw => assumption) | (apply Ab.gNF; case hw => assumption) | ((first | apply Ab.gD | apply Ab.gDN); all_goals (intro _ _; (first | contradiction | (exfalso; omega) | skip)))) | (apply Ab.K.awp; first | (apply Xg.s; constructor)) | (apply Ab.K.at_; exact at_) | (apply Ab.K.acall; first | assumption | (rw [← hs1]; exact cc)) | (apply Ab.Rg.mk; omega) | (apply Ab.Lt.mk; first | decide | (simp; done) | (simp; omega) | fail) | (apply Ab.Get.mk; first | rfl | fail) | (apply Ab.Nm.mk; first | exact nrm_) | (apply Xg.s; constructor) | (apply Ab.asm; assumption) | rfl | infer_instance | decide))
    all_goals ((first | apply RetQ.ret | apply RetQ.normal); (case he => exact evr_); (case hg => rfl))
    all_goals first | rfl | exact Keeps.fr F1 (plR.nm rfl) | (rw [hs1] at F1; exact Keeps.fr F1 (plR.nm rfl))
  rw [show decide ((⟨⟨last, cur, prop, over⟩, ⟨base, sent, q, clock⟩, ⟨next, owes⟩⟩ : Ln) = ⟨⟨last', cur', prop', over'⟩, ⟨base', sent', q', clock'⟩, ⟨next', owes'⟩⟩) = decide ((⟨base, sent, q, clock⟩ : Sd) = ⟨base', sent', q', clock'⟩) from decide_eq_decide.2 ⟨fun e => congrArg Ln.s e, fun e => by rw [hh, ht, e]⟩]
  (repeat' (first | (apply Ab.K.ev; exact ev_) | (apply Ab.K.aops; first | (apply Xg.s; constructor) | (apply Ab.S.guardU; (case hd => rfl); (case hb => (exact ev_; done))) | apply Ab.S.guardG) | (apply Ab.K.aop; first | (first | (apply Ab.O.boxA N; (case hx => exact ev_); (case hid => exact frees_)) | (apply Ab.O.boxA (N + 1); (case hx => exact ev_); (case hid => exact frees_)) | (apply Ab.O.bin; (case hx => exact ev_); (case hy => exact ev_); (case hv => first | exact eqH | exact eqT))) | (apply Og.s; constructor)) | (apply Ab.K.gk; first | (apply Xg.s; constructor) | (apply Ab.gY; case hw => assumption) | (apply Ab.gNT; case hw => assumption) | (apply Ab.gNF; case hw => assumption) | ((first | apply Ab.gD | apply Ab.gDN); all_goals (intro _ _; (first | contradiction | (exfalso; omega) | skip)))) | (apply Ab.K.awp; first | (apply Xg.s; constructor)) | (apply Ab.K.at_; exact at_) | (apply Ab.K.acall; first | assumption | (rw [← hs1]; exact cc)) | (apply Ab.Rg.mk; omega) | (apply Ab.Lt.mk; first | decide | (simp; done) | (simp; omega) | fail) | (apply Ab.Get.mk; first | rfl | fail) | (apply Ab.Nm.mk; first | exact nrm_) | (apply Xg.s; constructor) | (apply Ab.asm; assumption) | rfl | infer_instance | decide))
  all_goals ((first | apply RetQ.ret | apply RetQ.normal); (case he => exact evr_); (case hg => rfl))
  all_goals first | rfl | exact Keeps.fr F1 (plR.nm rfl) | (simp only [resV]; congr)
theorem same17 {s : AHeap} {c d : List Value} {x y : Ln} (h : RL s c x) (k : RL s d y) (hq : x.s.q.length ≤ 1000000000) (hr : y.s.q.length ≤ 1000000000) : ACall Try.prog 17 [.agg c.toArray, .agg d.toArray] s (.bool (decide (x = y))) s := by
  obtain ⟨v, rfl, hv⟩ := h; obtain ⟨w, rfl, hw⟩ := k
  exact same17' hv hw hq hr
set_option maxRecDepth 100000 in
set_option maxHeartbeats 4000000 in
theorem same23' {s : AHeap} {h h' : H} {x x' : Sd} {t t' : Tk} {v w : Value} (hv : Qt s v x.q) (hw : Qt s w x'.q) (hq : x.q.length ≤ 1000000000) (hr : x'.q.length ≤ 1000000000) :
    ACall Try.prog 23 [.agg (lnl h x v t).toArray, .agg (lnl h' x' w t').toArray] s (.bool (decide ((⟨h, x, t⟩ : Ln) = ⟨h', x', t'⟩))) s := by
  obtain ⟨last, cur, prop, over⟩ := h
  obtain ⟨last', cur', prop', over'⟩ := h'
  obtain ⟨base, sent, q, clock⟩ := x
  obtain ⟨base', sent', q', clock'⟩ := x'
  obtain ⟨next, owes⟩ := t
  obtain ⟨next', owes'⟩ := t'
  change ACall Try.prog 23 [.agg #[.int .i64 last, .int .i64 cur, .int .i64 prop, .bool over, .int .i64 base, .int .i64 sent, v, .int .i64 clock, .int .i64 next, .bool owes], .agg #[.int .i64 last', .int .i64 cur', .int .i64 prop', .bool over', .int .i64 base', .int .i64 sent', w, .int .i64 clock', .int .i64 next', .bool owes']] s _ s
  refine ACall.make Try.func23 rfl (by kernel_rfl) (by decide) rfl (fun N hN0 => ?_)
  have hT : Top N s := hN0
  obtain ⟨A, cap, rfl, hcap⟩ := hv.isl
  obtain ⟨B, cap2, rfl, hcap2⟩ := hw.isl
  obtain ⟨s1, hs1⟩ : ∃ s1 : AHeap, s1 = (s.set N (.cells true 1 [.int .i64 last, .int .i64 cur, .int .i64 prop, .bool over, .int .i64 base, .int .i64 sent, .slice A q.length cap, .int .i64 clock, .int .i64 next, .bool owes])).set (N + 1) (.cells true 1 [.int .i64 last', .int .i64 cur', .int .i64 prop', .bool over', .int .i64 base', .int .i64 sent', .slice B q'.length cap2, .int .i64 clock', .int .i64 next', .bool owes']) := ⟨_, rfl⟩
  have F1 : Fr s1 s [] := by rw [hs1]; exact Fr.new (hT.free (by omega)) (Fr.new (hT.free (Nat.le_refl _)) (Fr.refl _ _))
  have hS : Sub s s1 := fun i c hc => F1 i (by simp) c hc
  have cc := same41' (base := base) (sent := sent) (clock := clock) (base' := base') (sent' := sent') (clock' := clock') (hv.sub datQ hS) (hw.sub datQ hS) hq hr
  have e1 : ((base = base' ∧ sent = sent' ∧ clock = clock') ∧ q = q') ↔ (⟨base, sent, q, clock⟩ : Sd) = ⟨base', sent', q', clock'⟩ := by
    simp only [Sd.mk.injEq]
    exact ⟨fun ⟨⟨a, b, c⟩, d⟩ => ⟨a, b, d, c⟩, fun ⟨a, b, d, c⟩ => ⟨⟨a, b, c⟩, d⟩⟩
  rw [decide_eq_decide.2 e1] at cc

  by_cases hh : (⟨last, cur, prop, over⟩ : H) = ⟨last', cur', prop', over'⟩
  case neg =>
    rw [decide_eq_false (fun e : (⟨_, _, _⟩ : Ln) = _ => hh (congrArg Ln.h e))]
    (repeat' (first | (apply Ab.K.ev; exact ev_) | (apply Ab.K.aops; first | (apply Xg.s; constructor) | (apply Ab.S.guardU; (case hd => rfl); (case hb => (exact ev_; done))) | apply Ab.S.guardG) | (apply Ab.K.aop; first | (first | (apply Ab.O.boxA N; (case hx => exact ev_); (case hid => exact frees_)) | (apply Ab.O.boxA (N + 1); (case hx => exact ev_); (case hid => exact frees_)) | (apply Ab.O.bin; (case hx => exact ev_); (case hy => exact ev_); (case hv => first | exact eqH | exact eqT))) | (apply Og.s; constructor)) | (apply Ab.K.gk; first | (apply Xg.s; constructor) | (apply Ab.gY; case hw => assumption) | (apply Ab.gNT; case hw => assumption) | (apply Ab.gNF; case hw => assumption) | ((first | apply Ab.gD | apply Ab.gDN); all_goals (intro _ _; (first | contradiction | (exfalso; omega) | skip)))) | (apply Ab.K.awp; first | (apply Xg.s; constructor)) | (apply Ab.K.at_; exact at_) | (apply Ab.K.acall; first | assumption | (rw [← hs1]; exact cc)) | (apply Ab.Rg.mk; omega) | (apply Ab.Lt.mk; first | decide | (simp; done) | (simp; omega) | fail) | (apply Ab.Get.mk; first | rfl | fail) | (apply Ab.Nm.mk; first | exact nrm_) | (apply Xg.s; constructor) | (apply Ab.asm; assumption) | rfl | infer_instance | decide))
    all_goals ((first | apply RetQ.ret | apply RetQ.normal); (case he => exact evr_); (case hg => rfl))
    all_goals first | rfl | exact Keeps.fr F1 (plR.nm rfl) | (rw [hs1] at F1; exact Keeps.fr F1 (plR.nm rfl))
  by_cases ht : (⟨next, owes⟩ : Tk) = ⟨next', owes'⟩
  case neg =>
    rw [decide_eq_false (fun e : (⟨_, _, _⟩ : Ln) = _ => ht (congrArg Ln.t e))]
    (repeat' (first | (apply Ab.K.ev; exact ev_) | (apply Ab.K.aops; first | (apply Xg.s; constructor) | (apply Ab.S.guardU; (case hd => rfl); (case hb => (exact ev_; done))) | apply Ab.S.guardG) | (apply Ab.K.aop; first | (first | (apply Ab.O.boxA N; (case hx => exact ev_); (case hid => exact frees_)) | (apply Ab.O.boxA (N + 1); (case hx => exact ev_); (case hid => exact frees_)) | (apply Ab.O.bin; (case hx => exact ev_); (case hy => exact ev_); (case hv => first | exact eqH | exact eqT))) | (apply Og.s; constructor)) | (apply Ab.K.gk; first | (apply Xg.s; constructor) | (apply Ab.gY; case hw => assumption) | (apply Ab.gNT; case hw => assumption) | (apply Ab.gNF; case hw => assumption) | ((first | apply Ab.gD | apply Ab.gDN); all_goals (intro _ _; (first | contradiction | (exfalso; omega) | skip)))) | (apply Ab.K.awp; first | (apply Xg.s; constructor)) | (apply Ab.K.at_; exact at_) | (apply Ab.K.acall; first | assumption | (rw [← hs1]; exact cc)) | (apply Ab.Rg.mk; omega) | (apply Ab.Lt.mk; first | decide | (simp; done) | (simp; omega) | fail) | (apply Ab.Get.mk; first | rfl | fail) | (apply Ab.Nm.mk; first | exact nrm_) | (apply Xg.s; constructor) | (apply Ab.asm; assumption) | rfl | infer_instance | decide))
    all_goals ((first | apply RetQ.ret | apply RetQ.normal); (case he => exact evr_); (case hg => rfl))
    all_goals first | rfl | exact Keeps.fr F1 (plR.nm rfl) | (rw [hs1] at F1; exact Keeps.fr F1 (plR.nm rfl))
  rw [show decide ((⟨⟨last, cur, prop, over⟩, ⟨base, sent, q, clock⟩, ⟨next, owes⟩⟩ : Ln) = ⟨⟨last', cur', prop', over'⟩, ⟨base', sent', q', clock'⟩, ⟨next', owes'⟩⟩) = decide ((⟨base, sent, q, clock⟩ : Sd) = ⟨base', sent', q', clock'⟩) from decide_eq_decide.2 ⟨fun e => congrArg Ln.s e, fun e => by rw [hh, ht, e]⟩]
  (repeat' (first | (apply Ab.K.ev; exact ev_) | (apply Ab.K.aops; first | (apply Xg.s; constructor) | (apply Ab.S.guardU; (case hd => rfl); (case hb => (exact ev_; done))) | apply Ab.S.guardG) | (apply Ab.K.aop; first | (first | (apply Ab.O.boxA N; (case hx => exact ev_); (case hid => exact frees_)) | (apply Ab.O.boxA (N + 1); (case hx => exact ev_); (case hid => exact frees_)) | (apply Ab.O.bin; (case hx => exact ev_); (case hy => exact ev_); (case hv => first | exact eqH | exact eqT))) | (apply Og.s; constructor)) | (apply Ab.K.gk; first | (apply Xg.s; constructor) | (apply Ab.gY; case hw => assumption) | (apply Ab.gNT; case hw => assumption) | (apply Ab.gNF; case hw => assumption) | ((first | apply Ab.gD | apply Ab.gDN); all_goals (intro _ _; (first | contradiction | (exfalso; omega) | skip)))) | (apply Ab.K.awp; first | (apply Xg.s; constructor)) | (apply Ab.K.at_; exact at_) | (apply Ab.K.acall; first | assumption | (rw [← hs1]; exact cc)) | (apply Ab.Rg.mk; omega) | (apply Ab.Lt.mk; first | decide | (simp; done) | (simp; omega) | fail) | (apply Ab.Get.mk; first | rfl | fail) | (apply Ab.Nm.mk; first | exact nrm_) | (apply Xg.s; constructor) | (apply Ab.asm; assumption) | rfl | infer_instance | decide))
  all_goals ((first | apply RetQ.ret | apply RetQ.normal); (case he => exact evr_); (case hg => rfl))
  all_goals first | rfl | exact Keeps.fr F1 (plR.nm rfl) | (simp only [resV]; congr)
theorem same23 {s : AHeap} {c d : List Value} {x y : Ln} (h : RL s c x) (k : RL s d y) (hq : x.s.q.length ≤ 1000000000) (hr : y.s.q.length ≤ 1000000000) : ACall Try.prog 23 [.agg c.toArray, .agg d.toArray] s (.bool (decide (x = y))) s := by
  obtain ⟨v, rfl, hv⟩ := h; obtain ⟨w, rfl, hw⟩ := k
  exact same23' hv hw hq hr
end Go.Proofs.Ytoiplbackllgfaa

/- lines: a line of its own memory; new ones; ends. -/
namespace Go.Proofs.Ytoiplbackllgfaa
set_option linter.unusedVariables false
set_option linter.unusedSimpArgs false
set_option linter.unusedSectionVars false
open Go.RowKit Ab HP
attribute [local irreducible] AOps AOpsD AOpsP QStep NX AOp AWp put nargs AHeap.set At Free ACall ACallE thenQ blockQ roundQ RetQ RetE Src Gr
structure Nw where
  frames : List Fm
  came : List (List Int)
  down : Bool
  ses : Int
deriving DecidableEq
def nw0 : Nw := ⟨[], [], false, 0⟩
def RW (b : AHeap) (c : List Value) (x : Nw) : Prop := ∃ vf vc, c = [vf, vc, .bool x.down, .int .i64 x.ses] ∧ Sl b 5 (RF b) vf x.frames ∧ Qt b vc x.came
theorem datW : Dat 4 RW := ⟨fun b b' c x hs ⟨v, w, e, h, k⟩ => ⟨v, w, e, h.sub datF hs, k.sub datQ hs⟩, fun b c x ⟨v, w, e, h, k⟩ y hy => by
  subst e
  simp only [List.mem_cons, List.not_mem_nil, or_false] at hy
  rcases hy with rfl | rfl | rfl | rfl
  · exact h.nm
  · exact k.nm
  · trivial
  · trivial, by decide⟩
theorem RW.zero (b : AHeap) : RW b [.slice none 0 0, .slice none 0 0, .bool false, .int .i64 0] nw0 := ⟨_, _, rfl, .nil, .nil⟩
/-- A line. -/
def L1 (y : Ln) (r : Value) (b : AHeap) : Prop := ∃ c, r = .agg c.toArray ∧ RL b c y
theorem L1.mk {y : Ln} {b : AHeap} {c : List Value} (h : RL b c y) : L1 y (resV [.agg c.toArray]) b ∧ nmR (fun i => (b i).isSome = true) (resV [.agg c.toArray]) := ⟨⟨c, rfl, h⟩, nmGR (datL.nm _ _ _ h)⟩
/-- A line and news. -/
def LW (y : Ln) (n : Nw) (r : Value) (b : AHeap) : Prop := ∃ c d, r = .tuple #[.agg c.toArray, .agg d.toArray] ∧ RL b c y ∧ RW b d n
theorem LW.mk {y : Ln} {n : Nw} {b : AHeap} {c d : List Value} (h : RL b c y) (k : RW b d n) : LW y n (resV [.agg c.toArray, .agg d.toArray]) b ∧ nmR (fun i => (b i).isSome = true) (resV [.agg c.toArray, .agg d.toArray]) := by
  refine ⟨⟨c, d, rfl, h, k⟩, ?_⟩
  refine nmT (l := [_, _]) fun x hx => ?_
  simp only [List.mem_cons, List.not_mem_nil, or_false] at hx
  rcases hx with rfl | rfl
  · exact nmG (datL.nm _ _ _ h)
  · exact nmG (datW.nm _ _ _ k)
/-- A line, news and an error. -/
def LWE (y : Ln) (n : Nw) (e : Int) (r : Value) (b : AHeap) : Prop := ∃ c d, r = .tuple #[.agg c.toArray, .agg d.toArray, .int .i64 e] ∧ RL b c y ∧ RW b d n
theorem LWE.mk {y : Ln} {n : Nw} {e : Int} {b : AHeap} {c d : List Value} (h : RL b c y) (k : RW b d n) : LWE y n e (resV [.agg c.toArray, .agg d.toArray, .int .i64 e]) b ∧ nmR (fun i => (b i).isSome = true) (resV [.agg c.toArray, .agg d.toArray, .int .i64 e]) := by
  refine ⟨⟨c, d, rfl, h, k⟩, ?_⟩
  refine nmT (l := [_, _, _]) fun x hx => ?_
  simp only [List.mem_cons, List.not_mem_nil, or_false] at hx
  rcases hx with rfl | rfl | rfl
  · exact nmG (datL.nm _ _ _ h)
  · exact nmG (datW.nm _ _ _ k)
  · trivial
/-- A line and an error. -/
def LE (y : Ln) (e : Int) (r : Value) (b : AHeap) : Prop := ∃ c, r = .tuple #[.agg c.toArray, .int .i64 e] ∧ RL b c y
theorem LE.mk {y : Ln} {e : Int} {b : AHeap} {c : List Value} (h : RL b c y) : LE y e (resV [.agg c.toArray, .int .i64 e]) b ∧ nmR (fun i => (b i).isSome = true) (resV [.agg c.toArray, .int .i64 e]) := by
  refine ⟨⟨c, rfl, h⟩, ?_⟩
  refine nmT (l := [_, _]) fun x hx => ?_
  simp only [List.mem_cons, List.not_mem_nil, or_false] at hx
  rcases hx with rfl | rfl
  · exact nmG (datL.nm _ _ _ h)
  · trivial
def ln0 : Ln := ⟨⟨0, 0, 0, false⟩, sd0, tk0⟩
theorem RL.h (h : H) (b : AHeap) : RL b (lnl h sd0 (.slice none 0 0) tk0) ⟨h, sd0, tk0⟩ := ⟨_, rfl, .nil⟩
abbrev lna (last cur prop : Int) (over : Bool) (base sent : Int) (v : Value) (clock next : Int) (owes : Bool) : List Value := [.int .i64 last, .int .i64 cur, .int .i64 prop, .bool over, .int .i64 base, .int .i64 sent, v, .int .i64 clock, .int .i64 next, .bool owes]
abbrev ln00 : List Value := [.int .i64 0, .int .i64 0, .int .i64 0, .bool false, .int .i64 0, .int .i64 0, .slice none 0 0, .int .i64 0, .int .i64 0, .bool false]
abbrev nw00 : List Value := [.slice none 0 0, .slice none 0 0, .bool false, .int .i64 0]
set_option maxHeartbeats 4000000 in
theorem own33' {s b : AHeap} {last cur prop base sent clock next : Int} {over owes : Bool} {v : Value} {q : List (List Int)} (hb : Sub b s) (h : Qt b v q) (hq : q.length ≤ 1000000) (hl : ∀ x ∈ q, x.length ≤ 1000000000) :
    ACallE Try.prog 33 [.agg (lna last cur prop over base sent v clock next owes).toArray] s (Pu s b (L1 ⟨⟨last, cur, prop, over⟩, ⟨base, sent, q, clock⟩, ⟨next, owes⟩⟩)) := by
  refine ACallE.make Try.func33 rfl (by kernel_rfl) (by decide) rfl (fun N hN0 => ?_)
  have hT : Top N s := hN0
  obtain ⟨A, cap, rfl, hcap⟩ := h.isl
  obtain ⟨s1, hs1⟩ : ∃ s1 : AHeap, s1 = (s.set N (.cells true 1 (lna last cur prop over base sent (.slice A q.length cap) clock next owes))).set (N + 1) (.cells true 1 ln00) := ⟨_, rfl⟩
  have I1 : Inv s b s1 b := by rw [hs1]; exact ((Inv.refl hb).boxT hT (Nat.le_refl _)).boxT hT.new (Nat.le_refl _)
  have PN : Prv s s1 b N := by rw [hs1]; exact (Prv.mk' (Inv.refl hb) (hT.none (Nat.le_refl _))).set
  have PN1 : Prv s s1 b (N + 1) := by rw [hs1]; exact Prv.mk' ((Inv.refl hb).boxT hT (Nat.le_refl _)) (hT.new.none (Nat.le_refl _))
  have T1 : Top (N + 2) s1 := by rw [hs1]; exact hT.new.new
  have aN : At s1 N (.cells true 1 (lna last cur prop over base sent (.slice A q.length cap) clock next owes)) := by rw [hs1]; exact at_
  have aN1 : At s1 (N + 1) (.cells true 1 ln00) := by rw [hs1]; exact At.hit
  (repeat' (first | (apply Ab.K.ev; exact ev_) | (apply Ab.K.aops; first | (apply Xg.s; constructor) | apply Ab.S.guardG) | (apply Ab.K.aop; first | (first | (apply Ab.O.boxA N; (case hx => exact ev_); (case hid => exact frees_)) | (apply Ab.O.allocA (N + 1); (case hid => exact frees_); (case hp => rfl))) | (apply Og.s; constructor)) | (apply Ab.K.gk; first | (apply Xg.s; constructor) | (apply Ab.gY; case hw => assumption) | (apply Ab.gNT; case hw => assumption) | (apply Ab.gNF; case hw => assumption) | ((first | apply Ab.gD | apply Ab.gDN); all_goals (intro _ _; (first | contradiction | (exfalso; omega) | skip)))) | (apply Ab.K.awp; first | (apply Xg.s; constructor)) | (apply Ab.K.at_; exact at_) | (apply Ab.K.acall; first | assumption | fail) | (apply Ab.Rg.mk; omega) | (apply Ab.Lt.mk; first | decide | (simp; done) | (simp; omega) | fail) | (apply Ab.Get.mk; first | rfl | fail) | (apply Ab.Nm.mk; first | exact nrm_) | (apply Xg.s; constructor) | (apply Ab.asm; assumption) | rfl | infer_instance | decide))
  rw [← hs1]
  refine AWp.loop (fun kk tm s2 => ∃ (i M : Nat) (w : Value) (on : Option Nat) (xs : List Value) (b1 : AHeap), Ev tm (.tmp 1) (.pointer (some ⟨N, 0, none⟩)) ∧ Ev tm (.tmp 2) (.pointer (some ⟨N + 1, 0, none⟩)) ∧ Ev tm (.tmp 3) w ∧ Ev tm (.tmp 8) (.slice A q.length cap) ∧ Ev tm (.tmp 9) (.int .i64 q.length) ∧ Ev tm (.tmp 10) (.int .i64 i) ∧ At s2 N (.cells true 1 (lna last cur prop over base sent (.slice A q.length cap) clock next owes)) ∧ At s2 (N + 1) (.cells true 1 ln00) ∧ Inv s b s2 b1 ∧ Prv s s2 b1 N ∧ Prv s s2 b1 (N + 1) ∧ Gr s2 1 (N + 2) w on i xs ∧ Cs 1 (RQ b1) xs (q.take i) ∧ (∀ o, on = some o → Prv s s2 b1 o) ∧ Top M s2 ∧ N + 2 ≤ M ∧ i ≤ q.length ∧ kk = q.length - i) q.length ?_ ?_
  · exact ⟨0, N + 2, _, _, [], b, by exact ev_, by exact ev_, by exact ev_, by exact ev_, by exact ev_, by exact ev_, aN, aN1, I1, PN, PN1, Gr.nil, Cs.nil, (fun o e => by cases e), T1, Nat.le_refl _, by omega, rfl⟩
  clear I1 PN PN1 T1 aN aN1 hs1
  rintro kk tm s2 ⟨i, M, w, on, xs, b1, e1, e2, e3, e8, e9, e10, aN, aN1, I, PN, PN1, G, C, hP, T, hMM, hi, hkk⟩
  by_cases hin : i < q.length
  · obtain ⟨x, hx⟩ : ∃ x, q[i]? = some x := ⟨_, List.getElem?_eq_getElem hin⟩
    have htk : q.take (i + 1) = q.take i ++ [x] := by rw [List.take_add_one, hx]; rfl
    obtain ⟨o, off, c, sp, rw', cs, u, e, _, ha, hg, hu⟩ := h.qelt hx
    obtain ⟨rfl, rfl⟩ : A = some ⟨o, off, sp⟩ ∧ cap = c := by injection e with e1 e2 e3; exact ⟨e1, e3⟩
    have a1 : At s2 o (.cells rw' 1 cs) := (I.old.trans I.sub).at_ ha
    have cc := cloneB I.sub (hu.bt I.old) (hl x (List.mem_of_getElem? hx))

    (repeat' (first | (apply Ab.K.ev; exact ev_) | (apply Ab.K.aops; first | (apply Xg.s; constructor) | apply Ab.S.guardG) | (apply Ab.K.aop; first | (apply Ab.O.callFE; (case ha => exact evs_); (case hc => exact cc)) | (apply Og.s; constructor)) | (apply Ab.K.gk; first | (apply Xg.s; constructor) | (apply Ab.gY; case hw => assumption) | (apply Ab.gNT; case hw => assumption) | (apply Ab.gNF; case hw => assumption) | ((first | apply Ab.gD | apply Ab.gDN); all_goals (intro _ _; (first | contradiction | (exfalso; omega) | skip)))) | (apply Ab.K.awp; first | (apply Xg.s; constructor)) | (apply Ab.K.at_; exact at_) | (apply Ab.K.acall; first | assumption | fail) | (apply Ab.Rg.mk; omega) | (apply Ab.Lt.mk; first | decide | (simp; done) | (simp; omega) | fail) | (apply Ab.Get.mk; first | rfl | (first | (rw [Int.toNat_natCast, Nat.mul_one]; exact hg) | (rw [Int.toNat_natCast]; exact hg))) | (apply Ab.Nm.mk; first | exact nrm_) | (apply Xg.s; constructor) | (apply Ab.asm; assumption) | rfl | infer_instance | decide))
    rintro v2 s3 ⟨b2, I2, hv2⟩
    clear cc
    obtain ⟨B, c2, rfl, _⟩ := hv2.isl
    obtain ⟨M2, hM2, T2⟩ := I2.fin M T
    have I3 := I.trans I2
    have hlt := G.lt T
    have hge := G.from_
    have aN2 := I2.kp.at_ aN
    have aN12 := I2.kp.at_ aN1
    have PN2 := PN.call I2
    have PN12 := PN1.call I2
    (repeat' (first | (apply Ab.K.ev; exact ev_) | (apply Ab.K.aops; first | (apply Xg.s; constructor) | apply Ab.S.guardG) | (apply Ab.K.aop; first | (apply Ab.O.build1 (M2); (case hx => exact ev_); (case hv => exact ⟨rfl, rfl⟩); (case hz => exact ⟨rfl, rfl⟩); (case hid => exact free_)) | (apply Og.s; constructor)) | (apply Ab.K.gk; first | (apply Xg.s; constructor) | (apply Ab.gY; case hw => assumption) | (apply Ab.gNT; case hw => assumption) | (apply Ab.gNF; case hw => assumption) | ((first | apply Ab.gD | apply Ab.gDN); all_goals (intro _ _; (first | contradiction | (exfalso; omega) | skip)))) | (apply Ab.K.awp; first | (apply Xg.s; constructor)) | (apply Ab.K.at_; exact at_) | (apply Ab.K.acall; first | assumption | fail) | (apply Ab.Rg.mk; omega) | (apply Ab.Lt.mk; first | decide | (simp; done) | (simp; omega) | fail) | (apply Ab.Get.mk; first | rfl | (first | (rw [Int.toNat_natCast, Nat.mul_one]; exact hg) | (rw [Int.toNat_natCast]; exact hg))) | (apply Ab.Nm.mk; first | exact nrm_) | (apply Xg.s; constructor) | (apply Ab.asm; assumption) | rfl | infer_instance | decide))
    have G4 := (G.kp I2.kp).set (id := M2) (b := .cells true 1 [.slice B x.length c2]) (fun q e => by have := hlt q e; omega)
    clear G

    (apply Ab.O.appendL (M2 + 1); (case hx => exact ev_); (case hL => exact Ab.Gr.lat (by assumption)); (case hy => exact ev_); (case hs => exact srcAll At.hit rfl); (case hk => rfl); (case hm => decide); (case hl => first | rfl | simp); (case hz => decide); (case hb => omega); (case hfree => exact free_))
    intro s4 g
    have Ib := I3.boxT (c := .cells true 1 [.slice B x.length c2]) T2 (Nat.le_refl _)
    have I4 := Ib.grew g (fun q e => ⟨(hP q e).z, ((hP q e).call I2).b⟩)
    have P4 := Prv.new Ib g
    have PN4 := (PN2.set (N := M2) (c := .cells true 1 [.slice B x.length c2])).grew g (fun q e => by have := hge q e; omega)
    have PN14 := (PN12.set (N := M2) (c := .cells true 1 [.slice B x.length c2])).grew g (fun q e => by have := hge q e; omega)
    have aN4 := Gr.off g (At.miss (by omega) aN2) (fun q e => by have := hge q e; omega) (by omega)
    have aN14 := Gr.off g (At.miss (by omega) aN12) (fun q e => by have := hge q e; omega) (by omega)
    have T4 := G4.topN g T2.new
    have C4 : Cs 1 (RQ b2) (xs ++ [.slice B x.length c2]) (q.take (i + 1)) := by rw [htk]; exact (C.mono fun c y => datQ.mono _ _ c y I2.old).snoc rfl ⟨_, rfl, hv2⟩
    have G5 : Gr s4 1 (N + 2) _ _ (i + 1) _ := Gr.app g (by rw [C4.len, List.length_take]; omega) (by omega)
    (repeat' (first | (apply Ab.K.ev; exact ev_) | (apply Ab.K.aops; first | (apply Xg.s; constructor) | apply Ab.S.guardG) | (apply Ab.K.aop; first | (apply Og.s; constructor)) | (apply Ab.K.gk; first | (apply Xg.s; constructor) | (apply Ab.gY; case hw => assumption) | (apply Ab.gNT; case hw => assumption) | (apply Ab.gNF; case hw => assumption) | ((first | apply Ab.gD | apply Ab.gDN); all_goals (intro _ _; (first | contradiction | (exfalso; omega) | skip)))) | (apply Ab.K.awp; first | (apply Xg.s; constructor)) | (apply Ab.K.at_; exact at_) | (apply Ab.K.acall; first | assumption | fail) | (apply Ab.Rg.mk; omega) | (apply Ab.Lt.mk; first | decide | (simp; done) | (simp; omega) | fail) | (apply Ab.Get.mk; first | rfl | (first | (rw [Int.toNat_natCast, Nat.mul_one]; exact hg) | (rw [Int.toNat_natCast]; exact hg))) | (apply Ab.Nm.mk; first | exact nrm_) | (apply Xg.s; constructor) | (apply Ab.asm; assumption) | rfl | infer_instance | decide))
    exact X.roundN (q.length - (i + 1)) (by omega) ⟨i + 1, M2 + 2, _, _, _, b2, by exact ev_, by exact ev_, by exact ev_, by exact ev_, by exact ev_, by exact ev_, aN4, aN14, I4, PN4, PN14, G5, C4, (fun o e => by obtain rfl := Option.some.inj e; exact P4), T4, by omega, by omega, rfl⟩
  · have hie : i = q.length := by omega
    subst hie
    rw [List.take_length] at C
    have hge := G.from_
    obtain ⟨b2, I2, hs2, hw, hpr⟩ := G.tell2 datQ I hP C
    obtain ⟨B, c2, rfl, _⟩ := hw.isl
    have PN2 := hpr N (fun e => by have := hge N e; omega) PN
    have PN12 := hpr (N + 1) (fun e => by have := hge (N + 1) e; omega) PN1
    clear PN PN1 I
    (repeat' (first | (apply Ab.K.ev; exact ev_) | (apply Ab.K.aops; first | (apply Xg.s; constructor) | apply Ab.S.guardG) | (apply Ab.K.aop; first | (apply Og.s; constructor)) | (apply Ab.K.gk; first | (apply Xg.s; constructor) | (apply Ab.gY; case hw => assumption) | (apply Ab.gNT; case hw => assumption) | (apply Ab.gNF; case hw => assumption) | ((first | apply Ab.gD | apply Ab.gDN); all_goals (intro _ _; (first | contradiction | (exfalso; omega) | skip)))) | (apply Ab.K.awp; first | (apply Xg.s; constructor)) | (apply Ab.K.at_; exact at_) | (apply Ab.K.acall; first | assumption | fail) | (apply Ab.Rg.mk; omega) | (apply Ab.Lt.mk; first | decide | (simp; done) | (simp; omega) | fail) | (apply Ab.Get.mk; first | rfl | (first | (rw [Int.toNat_natCast, Nat.mul_one]; exact hg) | (rw [Int.toNat_natCast]; exact hg))) | (apply Ab.Nm.mk; first | exact nrm_) | (apply Xg.s; constructor) | (apply Ab.asm; assumption) | rfl | infer_instance | decide))
    all_goals apply RetE.puR (b := b2)
    case I => (repeat' (first | assumption | (apply Ab.Inv.boxP; (case p => (repeat' (first | assumption | apply Ab.Prv.set))))))
    case he => exact evr_
    case hg => rfl
    · exact (L1.mk ⟨_, rfl, hw⟩).1
    · exact (L1.mk (y := ⟨⟨last, cur, prop, over⟩, ⟨base, sent, q, clock⟩, ⟨next, owes⟩⟩) ⟨_, rfl, hw⟩).2
end Go.Proofs.Ytoiplbackllgfaa
