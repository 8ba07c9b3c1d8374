/- trees: what is left of edges without those of a kind. -/
import Derived.Test.YtnbgeodignljfaaUA
namespace Go.Proofs.Ytnbgeodignljfaa
set_option linter.unusedVariables false
set_option linter.unusedSimpArgs false
set_option linter.unusedSectionVars false
open Go.RowKit Ab TP
attribute [local irreducible] AOps AOpsD AOp AWp put nargs AHeap.set At Free ACall ACallE thenQ blockQ roundQ RetQ RetE Src bsn

def keepF (b : E → Bool) (l : List E) : List E := l.filter fun e => !b e
theorem keepF_snoc {b : E → Bool} {l : List E} {e : E} : keepF b (l ++ [e]) = keepF b l ++ if b e = true then [] else [e] := by
  unfold keepF
  rw [List.filter_append]
  cases h : b e <;> simp [h]
theorem keepF_all {b : E → Bool} {l : List E} (h : ∀ e ∈ l, b e = false) : keepF b l = l := List.filter_eq_self.2 fun e he => by rw [h e he]; rfl
theorem set_id {s : AHeap} {q : Nat} {x : ABlk} (h : At s q x) : s.set q x = s := by
  funext i
  by_cases hi : i = q
  · subst hi; rw [AHeap.set_same]; exact h.eq.symm
  · rw [AHeap.set_other _ _ hi]
theorem splice_drop {c l : List Value} {off m : Nat} (h : off + l.length ≤ c.length) (hm : off + l.length ≤ m) : (splice c off l).drop m = c.drop m := by
  rw [O.splice_set h, List.drop_append, List.drop_of_length_le (by rw [List.length_append, List.length_take]; omega), List.nil_append, List.drop_drop]
  congr 1
  rw [List.length_append, List.length_take]; omega
theorem splice_take_le {c l : List Value} {off m : Nat} (h : off + l.length ≤ c.length) (hm : m ≤ off) : (splice c off l).take m = c.take m := by
  rw [O.splice_set h, List.append_assoc, List.take_append_of_le_length (by rw [List.length_take]; omega), List.take_take, Nat.min_eq_left hm]
theorem zrep_pl {n : Nat} {z : List Value} (h : z.all pl1 = true) : (zrep n z).all pl1 = true := by
  rw [List.all_eq_true] at h ⊢
  intro x hx
  obtain ⟨y, hy, hxy⟩ := List.mem_flatten.1 hx
  obtain rfl := List.eq_of_mem_replicate hy
  exact h x hxy
theorem deleteF31n {s : AHeap} {A : Option Addr} {n c : Nat} {on : Option Nat} {l : List E} {fn : FuncId} {caps : Array Value} {b : E → Bool} (h : EA s (.slice A n c) on l) (hn : n ≤ 512) (hb : ∀ e ∈ l, b e = false) (hF : ∀ e, e ∈ l → ACall Try.prog fn (.agg (ec e).toArray :: caps.toList) s (.bool (b e)) s) :
    ACall Try.prog 31 [.slice A n c, .func (.func fn) #[] caps] s (.slice A n c) s := by
  have c38 : ACall Try.prog 38 [.slice A n c, .func (.func fn) #[] caps] s (.int .i64 (-1)) s := (index38p h hF hn).toCall fun v s' hh => by
    obtain ⟨rfl, ⟨i, e, _, he, hbe, _⟩ | ⟨_, rfl⟩⟩ := hh
    · rw [hb e (List.mem_of_getElem? he)] at hbe; cases hbe
    · exact ⟨rfl, rfl⟩
  have hs : nmR (fun i => (s i).isSome = true) (.slice A n c) := by
    cases h with
    | nil => trivial
    | blk h _ _ => simp [nmR, nmB, nm1, nmA, h.eq]
  refine ACall.make Try.func31 rfl (by kernel_rfl) (by decide) rfl (fun N hN => ?_)
  (repeat' (first | (apply Ab.K.ev; exact ev_) | (apply Ab.K.aops; first | (apply Xg.s; constructor) | (apply Ab.S.guardU; (case hd => rfl); (case hb => (exact ev_; done))) | apply Ab.S.guardG) | (apply Ab.K.aop; first | (apply Og.s; constructor) | (apply Ab.O.clear0; (case hx => exact ev_)) | (apply Ab.O.clearG; (case hz => exact ⟨rfl, rfl⟩))) | (apply Ab.K.gk; first | (apply Xg.s; constructor) | (apply Ab.gY; case hw => assumption) | (apply Ab.gNT; case hw => assumption) | (apply Ab.gNF; case hw => assumption) | ((first | apply Ab.gD | apply Ab.gDN); all_goals (intro _ _; (first | contradiction | (exfalso; omega) | skip)))) | (apply Ab.K.awp; first | (apply Xg.s; constructor)) | (apply Ab.K.at_; exact at_) | (apply Ab.K.acall; first | assumption | exact c38) | (apply Ab.Rg.mk; omega) | (apply Ab.Lt.mk; first | decide | (simp; done) | (simp; omega) | fail) | (apply Ab.Get.mk; first | rfl | fail) | (apply Ab.Nm.mk; first | exact nrm_) | (apply Xg.s; constructor) | (apply Ab.asm; assumption) | rfl | infer_instance | decide))
  all_goals ((first | apply RetQ.ret | apply RetQ.normal); (case he => exact evr_); (case hg => rfl))
  all_goals first | rfl | exact Keeps.self hs
set_option maxHeartbeats 4000000 in
theorem deleteF31 {s : AHeap} {q n : Nat} {l : List E} {fn : FuncId} {caps : Array Value} {b : E → Bool} (hq : At s q (.cells true 3 (ecs l))) (hnl : n = l.length) (hn : n ≤ 512) (hF : ∀ s1 e, Fr s1 s [q] → e ∈ l → ACall Try.prog fn (.agg (ec e).toArray :: caps.toList) s1 (.bool (b e)) s1) :
    ACallE Try.prog 31 [.slice (some ⟨q, 0, none⟩) n n, .func (.func fn) #[] caps] s (fun v s' => ∃ cs, v = .slice (some ⟨q, 0, none⟩) (keepF b l).length n ∧ s' = s.set q (.cells true 3 cs) ∧ cs.length = n * 3 ∧ cs.all pl1 = true ∧ cs.take ((keepF b l).length * 3) = ecs (keepF b l)) := by
  subst hnl
  have c38 := index38p (b := b) (EA.own hq) (fun e he => hF s e (Fr.refl _ _) he) hn
  refine ACallE.make Try.func31 rfl (by kernel_rfl) (by decide) rfl (fun N hN => ?_)
  have hT : Top N s := hN
  have hqN := hT.lt hq
  (repeat' (first | (apply Ab.K.ev; exact ev_) | (apply Ab.K.aops; first | (apply Xg.s; constructor) | (apply Ab.S.guardU; (case hd => rfl); (case hb => (exact ev_; done))) | apply Ab.S.guardG) | (apply Ab.K.aop; first | (apply Ab.O.callFE; (case ha => exact evs_); (case hc => exact c38)) | (apply Og.s; constructor) | (apply Ab.O.clear0; (case hx => exact ev_)) | (apply Ab.O.clearG; (case hz => exact ⟨rfl, rfl⟩))) | (apply Ab.K.gk; first | (apply Xg.s; constructor) | (apply Ab.gY; case hw => assumption) | (apply Ab.gNT; case hw => assumption) | (apply Ab.gNF; case hw => assumption) | ((first | apply Ab.gD | apply Ab.gDN); all_goals (intro _ _; (first | contradiction | (exfalso; omega) | skip)))) | (apply Ab.K.awp; first | (apply Xg.s; constructor)) | (apply Ab.K.at_; exact at_) | (apply Ab.K.acall; first | assumption | fail) | (apply Ab.Rg.mk; omega) | (apply Ab.Lt.mk; first | decide | (simp; done) | (simp; omega) | fail) | (apply Ab.Get.mk; first | rfl | fail) | (apply Ab.Nm.mk; first | exact nrm_) | (apply Xg.s; constructor) | (apply Ab.asm; assumption) | rfl | infer_instance | decide))
  rintro v s2 ⟨rfl, ⟨i0, e0, hi0, hl0, hb0, hbf, rfl⟩ | ⟨hall, rfl⟩⟩
  · clear c38
    have hk0 : keepF b (l.take i0) = l.take i0 := keepF_all hbf
    have htk0 : l.take (i0 + 1) = l.take i0 ++ [e0] := by rw [List.take_add_one, hl0]; rfl
    have hk1 : keepF b (l.take (i0 + 1)) = l.take i0 := by rw [htk0, keepF_snoc, if_pos hb0, hk0, List.append_nil]
    (repeat' (first | (apply Ab.K.ev; exact ev_) | (apply Ab.K.aops; first | (apply Xg.s; constructor) | (apply Ab.S.guardU; (case hd => rfl); (case hb => (exact ev_; done))) | apply Ab.S.guardG) | (apply Ab.K.aop; first | (apply Og.s; constructor) | (apply Ab.O.clear0; (case hx => exact ev_)) | (apply Ab.O.clearG; (case hz => exact ⟨rfl, rfl⟩))) | (apply Ab.K.gk; first | (apply Xg.s; constructor) | (apply Ab.gY; case hw => assumption) | (apply Ab.gNT; case hw => assumption) | (apply Ab.gNF; case hw => assumption) | ((first | apply Ab.gD | apply Ab.gDN); all_goals (intro _ _; (first | contradiction | (exfalso; omega) | skip)))) | (apply Ab.K.awp; first | (apply Xg.s; constructor)) | (apply Ab.K.at_; exact at_) | (apply Ab.K.acall; first | assumption | fail) | (apply Ab.Rg.mk; omega) | (apply Ab.Lt.mk; first | decide | (simp; done) | (simp; omega) | fail) | (apply Ab.Get.mk; first | rfl | fail) | (apply Ab.Nm.mk; first | exact nrm_) | (apply Xg.s; constructor) | (apply Ab.asm; assumption) | rfl | infer_instance | decide))
    refine AWp.loop (fun kk tm s1 => ∃ (j M : Nat) (r : List E) (cs : List Value), Ev tm (.tmp 0) (.slice (some ⟨q, 0, none⟩) l.length l.length) ∧ Ev tm (.tmp 1) (.func (.func fn) #[] caps) ∧ Ev tm (.tmp 5) (.int .i64 r.length) ∧ Ev tm (.tmp 6) (.int .i64 j) ∧ At s1 q (.cells true 3 cs) ∧ cs.length = l.length * 3 ∧ cs.all pl1 = true ∧ r = keepF b (l.take j) ∧ cs.take (r.length * 3) = ecs r ∧ cs.drop (j * 3) = ecs (l.drop j) ∧ r.length < j ∧ j ≤ l.length ∧ Fr s1 s2 [q] ∧ Top M s1 ∧ N ≤ M ∧ kk = l.length - j) (l.length - (i0 + 1)) ?_ ?_
    · refine ⟨i0 + 1, N, l.take i0, ecs l, by exact ev_, by exact ev_, by rw [List.length_take, Nat.min_eq_left (by omega)]; exact ev_, by exact ev_, hq, ecs_length l, ecs_pl l, hk1.symm, ?_, ?_, by rw [List.length_take]; omega, by omega, Fr.refl _ _, hT, Nat.le_refl _, rfl⟩
      · rw [List.length_take, Nat.min_eq_left (by omega)]
        conv => lhs; rw [← List.take_append_drop i0 l, ecs_append]
        rw [List.take_left' (by rw [ecs_length, List.length_take, Nat.min_eq_left (by omega)])]
      · conv => lhs; rw [← List.take_append_drop (i0 + 1) l, ecs_append]
        rw [List.drop_left' (by rw [ecs_length, List.length_take, Nat.min_eq_left (by omega)])]
    have hq0 := hq
    clear hq hk0 htk0 hk1 hl0 hb0 hbf
    rintro kk tm s1 ⟨j, M, r, cs, e0, e1, e5, e6, aq, hcl, hcp, hr, hct, hcd, hrj, hj, F, T, hNM, hkk⟩
    have hqM := T.lt aq
    by_cases hjn : j < l.length
    · have hi' : l[j]? = some (l[j]'(by omega)) := List.getElem?_eq_getElem (by omega)
      obtain ⟨e, hee⟩ : ∃ e, e = l[j]'(by omega) := ⟨_, rfl⟩
      rw [← hee] at hi'
      have hdj : l.drop j = e :: l.drop (j + 1) := by rw [List.drop_eq_getElem_cons hjn, ← hee]
      have htk : l.take (j + 1) = l.take j ++ [e] := by rw [List.take_add_one, hi']; rfl
      have hE : (cs.drop (j * 3)).take 3 = ec e := by rw [hcd, hdj]; rfl
      have hcd1 : cs.drop ((j + 1) * 3) = ecs (l.drop (j + 1)) := by
        rw [show (j + 1) * 3 = j * 3 + 3 from by omega, ← List.drop_drop, hcd, hdj]; rfl
      have F1 : Fr (s1.set M (.cells true 1 (ec ⟨0, 0, 0⟩))) s2 [q] := Fr.new (hT.free hNM) F
      have F2 : Fr ((s1.set M (.cells true 1 (ec ⟨0, 0, 0⟩))).set M (.cells true 1 (ec e))) s2 [q] := by rw [AHeap.set_set]; exact Fr.new (hT.free hNM) F
      have T2 : Top (M + 1) ((s1.set M (.cells true 1 (ec ⟨0, 0, 0⟩))).set M (.cells true 1 (ec e))) := T.new.set (by omega)
      have cF := hF _ e F2 (List.mem_of_getElem? hi')


      cases hbe : b e
      · rw [hbe] at cF
        have hr1 : r ++ [e] = keepF b (l.take (j + 1)) := by rw [htk, keepF_snoc, if_neg (by rw [hbe]; decide), ← hr]
        have hsp := O.splice_set (c := cs) (l := ec e) (off := r.length * 3) (by show r.length * 3 + 3 ≤ _; omega)
        have hsplen : (splice cs (r.length * 3) (ec e)).length = l.length * 3 := by rw [splice_length, hcl]
        (repeat' (first | (apply Ab.K.ev; exact ev_) | (apply Ab.K.aops; first | (apply Xg.s; constructor) | (apply Ab.S.guardU; (case hd => rfl); (case hb => (exact ev_; done))) | apply Ab.S.guardG) | (apply Ab.K.aop; first | (first | (apply Ab.O.allocA (l := ec ⟨0, 0, 0⟩) M; (case hid => exact T.free (Nat.le_refl _)); (case hp => rfl)) | (apply Ab.O.call; (case hf => exact ev_); (case ha => exact evs_); (case hc => exact cF)) | (apply Ab.O.storeAll; (case hz => rfl); (case hx => exact ev_); (case hy => exact ev_); (case hs => exact at_); (case hl => rfl); (case hc => rfl))) | (apply Og.s; constructor) | (apply Ab.O.clear0; (case hx => exact ev_)) | (apply Ab.O.clearG; (case hz => exact ⟨rfl, rfl⟩))) | (apply Ab.K.gk; first | (apply Xg.s; constructor) | (apply Ab.gY; case hw => assumption) | (apply Ab.gNT; case hw => assumption) | (apply Ab.gNF; case hw => assumption) | ((first | apply Ab.gD | apply Ab.gDN); all_goals (intro _ _; (first | contradiction | (exfalso; omega) | skip)))) | (apply Ab.K.awp; first | (apply Xg.s; constructor)) | (apply Ab.K.at_; exact at_) | (apply Ab.K.acall; first | assumption | fail) | (apply Ab.Rg.mk; omega) | (apply Ab.Lt.mk; first | decide | (simp; done) | (simp; omega) | first | omega | (show (0 + 3 : Nat) < 3 + 1; decide)) | (apply Ab.Get.mk; first | rfl | fail) | (apply Ab.Nm.mk; first | first | exact Eq.trans (congrArg (fun z => List.take _ (List.drop (z * 3) cs)) (Int.toNat_natCast j)) hE | exact (show ((ec e).drop 0).take 3 = ec e from rfl) | exact nrm_) | (apply Xg.s; constructor) | (apply Ab.asm; assumption) | rfl | infer_instance | decide))
        refine X.roundN (l.length - (j + 1)) (by omega) ⟨j + 1, M + 1, r ++ [e], splice cs (r.length * 3) (ec e), by exact ev_, by exact ev_, by rw [List.length_append]; exact ev_, by exact ev_, by exact at_, hsplen, splice_all_pl hcp rfl, hr1, ?_, ?_, by rw [List.length_append]; simp; omega, by omega, Fr.set (by simp) F2, T2.set (by omega), by omega, rfl⟩
        · rw [List.length_append, show (r.length + [e].length) * 3 = r.length * 3 + (ec e).length from by simp [ec]; omega, splice_take (by show r.length * 3 + 3 ≤ _; omega), hct, ecs_append]
          simp [ecs]
        · rw [splice_drop (by show r.length * 3 + 3 ≤ _; omega) (by show r.length * 3 + 3 ≤ _; omega)]; exact hcd1
      · rw [hbe] at cF
        have hr1 : r = keepF b (l.take (j + 1)) := by rw [htk, keepF_snoc, if_pos hbe, List.append_nil, ← hr]
        (repeat' (first | (apply Ab.K.ev; exact ev_) | (apply Ab.K.aops; first | (apply Xg.s; constructor) | (apply Ab.S.guardU; (case hd => rfl); (case hb => (exact ev_; done))) | apply Ab.S.guardG) | (apply Ab.K.aop; first | (first | (apply Ab.O.allocA (l := ec ⟨0, 0, 0⟩) M; (case hid => exact T.free (Nat.le_refl _)); (case hp => rfl)) | (apply Ab.O.call; (case hf => exact ev_); (case ha => exact evs_); (case hc => exact cF)) | (apply Ab.O.storeAll; (case hz => rfl); (case hx => exact ev_); (case hy => exact ev_); (case hs => exact at_); (case hl => rfl); (case hc => rfl))) | (apply Og.s; constructor) | (apply Ab.O.clear0; (case hx => exact ev_)) | (apply Ab.O.clearG; (case hz => exact ⟨rfl, rfl⟩))) | (apply Ab.K.gk; first | (apply Xg.s; constructor) | (apply Ab.gY; case hw => assumption) | (apply Ab.gNT; case hw => assumption) | (apply Ab.gNF; case hw => assumption) | ((first | apply Ab.gD | apply Ab.gDN); all_goals (intro _ _; (first | contradiction | (exfalso; omega) | skip)))) | (apply Ab.K.awp; first | (apply Xg.s; constructor)) | (apply Ab.K.at_; exact at_) | (apply Ab.K.acall; first | assumption | fail) | (apply Ab.Rg.mk; omega) | (apply Ab.Lt.mk; first | decide | (simp; done) | (simp; omega) | first | omega | (show (0 + 3 : Nat) < 3 + 1; decide)) | (apply Ab.Get.mk; first | rfl | fail) | (apply Ab.Nm.mk; first | first | exact Eq.trans (congrArg (fun z => List.take _ (List.drop (z * 3) cs)) (Int.toNat_natCast j)) hE | exact (show ((ec e).drop 0).take 3 = ec e from rfl) | exact nrm_) | (apply Xg.s; constructor) | (apply Ab.asm; assumption) | rfl | infer_instance | decide))
        exact X.roundN (l.length - (j + 1)) (by omega) ⟨j + 1, M + 1, r, cs, by exact ev_, by exact ev_, by exact ev_, by exact ev_, by exact at_, hcl, hcp, hr1, hct, hcd1, by omega, by omega, F2, T2, by omega, rfl⟩
    · obtain rfl : j = l.length := by omega
      rw [List.take_length] at hr
      (repeat' (first | (apply Ab.K.ev; exact ev_) | (apply Ab.K.aops; first | (apply Xg.s; constructor) | (apply Ab.S.guardU; (case hd => rfl); (case hb => (exact ev_; done))) | apply Ab.S.guardG) | (apply Ab.K.aop; first | (apply Og.s; constructor) | (apply Ab.O.clear0; (case hx => exact ev_)) | (apply Ab.O.clearG; (case hz => exact ⟨rfl, rfl⟩))) | (apply Ab.K.gk; first | (apply Xg.s; constructor) | (apply Ab.gY; case hw => assumption) | (apply Ab.gNT; case hw => assumption) | (apply Ab.gNF; case hw => assumption) | ((first | apply Ab.gD | apply Ab.gDN); all_goals (intro _ _; (first | contradiction | (exfalso; omega) | skip)))) | (apply Ab.K.awp; first | (apply Xg.s; constructor)) | (apply Ab.K.at_; exact at_) | (apply Ab.K.acall; first | assumption | fail) | (apply Ab.Rg.mk; omega) | (apply Ab.Lt.mk; first | decide | (simp; done) | (simp; omega) | first | omega | (show (0 + 3 : Nat) < 3 + 1; decide)) | (apply Ab.Get.mk; first | rfl | fail) | (apply Ab.Nm.mk; first | first | exact Eq.trans (congrArg (fun z => List.take _ (List.drop (z * 3) cs)) (Int.toNat_natCast j)) hE | exact (show ((ec e).drop 0).take 3 = ec e from rfl) | exact nrm_) | (apply Xg.s; constructor) | (apply Ab.asm; assumption) | rfl | infer_instance | decide))
      all_goals ((first | apply RetE.ret | apply RetE.normal); (case he => exact evr_); (case hg => rfl))
      · rw [Int.toNat_natCast, ← hr]
        exact ⟨splice cs (r.length * 3) (zrep (l.length - r.length) [.int .i64 0, .int .i64 0, .int .i64 0]), rfl, rfl, by rw [splice_length, hcl], splice_all_pl hcp (zrep_pl rfl), by rw [splice_take_le (by rw [zrep_length]; show _ + (l.length - r.length) * 3 ≤ _; omega) (Nat.le_refl _)]; exact hct⟩
      · rw [Nat.zero_add, Int.toNat_natCast]
        refine Keeps.one hq0.eq (AHeap.set_same _ _ _) (fun i hi c hc => ?_) (nm_scal (splice_all_pl hcp (zrep_pl rfl))) (by simp [resV, nmR, nmB, nm1, nmA, hq0.eq])
        rw [AHeap.set_other _ _ hi]
        exact F i (by simpa using hi) c hc
  · rw [keepF_all hall]
    clear c38
    (repeat' (first | (apply Ab.K.ev; exact ev_) | (apply Ab.K.aops; first | (apply Xg.s; constructor) | (apply Ab.S.guardU; (case hd => rfl); (case hb => (exact ev_; done))) | apply Ab.S.guardG) | (apply Ab.K.aop; first | (apply Og.s; constructor) | (apply Ab.O.clear0; (case hx => exact ev_)) | (apply Ab.O.clearG; (case hz => exact ⟨rfl, rfl⟩))) | (apply Ab.K.gk; first | (apply Xg.s; constructor) | (apply Ab.gY; case hw => assumption) | (apply Ab.gNT; case hw => assumption) | (apply Ab.gNF; case hw => assumption) | ((first | apply Ab.gD | apply Ab.gDN); all_goals (intro _ _; (first | contradiction | (exfalso; omega) | skip)))) | (apply Ab.K.awp; first | (apply Xg.s; constructor)) | (apply Ab.K.at_; exact at_) | (apply Ab.K.acall; first | assumption | fail) | (apply Ab.Rg.mk; omega) | (apply Ab.Lt.mk; first | decide | (simp; done) | (simp; omega) | first | omega | (show (0 + 3 : Nat) < 3 + 1; decide)) | (apply Ab.Get.mk; first | rfl | fail) | (apply Ab.Nm.mk; first | first | exact Eq.trans (congrArg (fun z => List.take _ (List.drop (z * 3) cs)) (Int.toNat_natCast j)) hE | exact (show ((ec e).drop 0).take 3 = ec e from rfl) | exact nrm_) | (apply Xg.s; constructor) | (apply Ab.asm; assumption) | rfl | infer_instance | decide))
    all_goals ((first | apply RetE.ret | apply RetE.normal); (case he => exact evr_); (case hg => rfl))
    · exact ⟨ecs l, rfl, (set_id hq).symm, ecs_length l, ecs_pl l, by rw [← ecs_length, List.take_length]⟩
    · exact Keeps.self (by simp [resV, nmR, nmB, nm1, nmA, hq.eq])
end Go.Proofs.Ytnbgeodignljfaa
