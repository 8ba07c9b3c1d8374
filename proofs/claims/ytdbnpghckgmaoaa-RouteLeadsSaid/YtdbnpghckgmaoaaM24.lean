/- texts of this claim, one behind the other: UB, TQ, UD, TR, UG, VH, VI. -/
import Derived.Test.YtdbnpghckgmaoaaM21
import Derived.Test.YtdbnpghckgmaoaaM22
import Derived.Test.YtdbnpghckgmaoaaM23

/- trees: what is left of edges without those of a kind. -/
namespace Go.Proofs.Ytdbnpghckgmaoaa
set_option linter.unusedVariables false
set_option linter.unusedSimpArgs false
set_option linter.unusedSectionVars false
open Go.RowKit Ab TP
attribute [local irreducible] AOps AOpsD AOp AWp put nargs AHeap.set At Free ACall ACallE thenQ blockQ roundQ RetQ RetE Src bsn

def keepF (b : E → Bool) (l : List E) : List E := l.filter fun e => !b e
theorem keepF_snoc {b : E → Bool} {l : List E} {e : E} : keepF b (l ++ [e]) = keepF b l ++ if b e = true then [] else [e] := by
  unfold keepF
  rw [List.filter_append]
  cases h : b e <;> simp [h]
theorem keepF_all {b : E → Bool} {l : List E} (h : ∀ e ∈ l, b e = false) : keepF b l = l := List.filter_eq_self.2 fun e he => by rw [h e he]; rfl
theorem set_id {s : AHeap} {q : Nat} {x : ABlk} (h : At s q x) : s.set q x = s := by
  funext i
  by_cases hi : i = q
  · subst hi; rw [AHeap.set_same]; exact h.eq.symm
  · rw [AHeap.set_other _ _ hi]
theorem splice_drop {c l : List Value} {off m : Nat} (h : off + l.length ≤ c.length) (hm : off + l.length ≤ m) : (splice c off l).drop m = c.drop m := by
  rw [O.splice_set h, List.drop_append, List.drop_of_length_le (by rw [List.length_append, List.length_take]; omega), List.nil_append, List.drop_drop]
  congr 1
  rw [List.length_append, List.length_take]; omega
theorem splice_take_le {c l : List Value} {off m : Nat} (h : off + l.length ≤ c.length) (hm : m ≤ off) : (splice c off l).take m = c.take m := by
  rw [O.splice_set h, List.append_assoc, List.take_append_of_le_length (by rw [List.length_take]; omega), List.take_take, Nat.min_eq_left hm]
theorem zrep_pl {n : Nat} {z : List Value} (h : z.all pl1 = true) : (zrep n z).all pl1 = true := by
  rw [List.all_eq_true] at h ⊢
  intro x hx
  obtain ⟨y, hy, hxy⟩ := List.mem_flatten.1 hx
  obtain rfl := List.eq_of_mem_replicate hy
  exact h x hxy
theorem deleteF31n {s : AHeap} {A : Option Addr} {n c : Nat} {on : Option Nat} {l : List E} {fn : FuncId} {caps : Array Value} {b : E → Bool} (h : EA s (.slice A n c) on l) (hn : n ≤ 512) (hb : ∀ e ∈ l, b e = false) (hF : ∀ e, e ∈ l → ACall Try.prog fn (.agg (ec e).toArray :: caps.toList) s (.bool (b e)) s) :
    ACall Try.prog 37 [.slice A n c, .func (.func fn) #[] caps] s (.slice A n c) s := by
  have c38 : ACall Try.prog 53 [.slice A n c, .func (.func fn) #[] caps] s (.int .i64 (-1)) s := (index38p h hF hn).toCall fun v s' hh => by
    obtain ⟨rfl, ⟨i, e, _, he, hbe, _⟩ | ⟨_, rfl⟩⟩ := hh
    · rw [hb e (List.mem_of_getElem? he)] at hbe; cases hbe
    · exact ⟨rfl, rfl⟩
  have hs : nmR (fun i => (s i).isSome = true) (.slice A n c) := by
    cases h with
    | nil => trivial
    | blk h _ _ => simp [nmR, nmB, nm1, nmA, h.eq]
  refine ACall.make Try.func37 rfl (by kernel_rfl) (by decide) rfl (fun N hN => ?_)
  (repeat' (first | (apply Ab.K.ev; exact ev_) | (apply Ab.K.aops; first | (apply Xg.s; constructor) | (apply Ab.S.guardU; (case hd => rfl); (case hb => (exact ev_; done))) | apply Ab.S.guardG) | (apply Ab.K.aop; first | (apply Og.s; constructor) | (apply Ab.O.clear0; (case hx => exact ev_)) | (apply Ab.O.clearG; (case hz => exact ⟨rfl, rfl⟩))) | (apply Ab.K.gk; first | (apply Xg.s; constructor) | (apply Ab.gY; case hw => assumption) | (apply Ab.gNT; case hw => assumption) | (apply Ab.gNF; case hw => assumption) | ((first | apply Ab.gD | apply Ab.gDN); all_goals (intro _ _; (first | contradiction | (exfalso; omega) | skip)))) | (apply Ab.K.awp; first | (apply Xg.s; constructor)) | (apply Ab.K.at_; exact at_) | (apply Ab.K.acall; first | assumption | exact c38) | (apply Ab.Rg.mk; omega) | (apply Ab.Lt.mk; first | decide | (simp; done) | (simp; omega) | fail) | (apply Ab.Get.mk; first | rfl | fail) | (apply Ab.Nm.mk; first | exact nrm_) | (apply Xg.s; constructor) | (apply Ab.asm; assumption) | rfl | infer_instance | decide))
  all_goals ((first | apply RetQ.ret | apply RetQ.normal); (case he => exact evr_); (case hg => rfl))
  all_goals first | rfl | exact Keeps.self hs
set_option maxHeartbeats 4000000 in
theorem deleteF31 {s : AHeap} {q n : Nat} {l : List E} {fn : FuncId} {caps : Array Value} {b : E → Bool} (hq : At s q (.cells true 3 (ecs l))) (hnl : n = l.length) (hn : n ≤ 512) (hF : ∀ s1 e, Fr s1 s [q] → e ∈ l → ACall Try.prog fn (.agg (ec e).toArray :: caps.toList) s1 (.bool (b e)) s1) :
    ACallE Try.prog 37 [.slice (some ⟨q, 0, none⟩) n n, .func (.func fn) #[] caps] s (fun v s' => ∃ cs, v = .slice (some ⟨q, 0, none⟩) (keepF b l).length n ∧ s' = s.set q (.cells true 3 cs) ∧ cs.length = n * 3 ∧ cs.all pl1 = true ∧ cs.take ((keepF b l).length * 3) = ecs (keepF b l)) := by
  subst hnl
  have c38 := index38p (b := b) (EA.own hq) (fun e he => hF s e (Fr.refl _ _) he) hn
  refine ACallE.make Try.func37 rfl (by kernel_rfl) (by decide) rfl (fun N hN => ?_)
  have hT : Top N s := hN
  have hqN := hT.lt hq
  (repeat' (first | (apply Ab.K.ev; exact ev_) | (apply Ab.K.aops; first | (apply Xg.s; constructor) | (apply Ab.S.guardU; (case hd => rfl); (case hb => (exact ev_; done))) | apply Ab.S.guardG) | (apply Ab.K.aop; first | (apply Ab.O.callFE; (case ha => exact evs_); (case hc => exact c38)) | (apply Og.s; constructor) | (apply Ab.O.clear0; (case hx => exact ev_)) | (apply Ab.O.clearG; (case hz => exact ⟨rfl, rfl⟩))) | (apply Ab.K.gk; first | (apply Xg.s; constructor) | (apply Ab.gY; case hw => assumption) | (apply Ab.gNT; case hw => assumption) | (apply Ab.gNF; case hw => assumption) | ((first | apply Ab.gD | apply Ab.gDN); all_goals (intro _ _; (first | contradiction | (exfalso; omega) | skip)))) | (apply Ab.K.awp; first | (apply Xg.s; constructor)) | (apply Ab.K.at_; exact at_) | (apply Ab.K.acall; first | assumption | fail) | (apply Ab.Rg.mk; omega) | (apply Ab.Lt.mk; first | decide | (simp; done) | (simp; omega) | fail) | (apply Ab.Get.mk; first | rfl | fail) | (apply Ab.Nm.mk; first | exact nrm_) | (apply Xg.s; constructor) | (apply Ab.asm; assumption) | rfl | infer_instance | decide))
  rintro v s2 ⟨rfl, ⟨i0, e0, hi0, hl0, hb0, hbf, rfl⟩ | ⟨hall, rfl⟩⟩
  · clear c38
    have hk0 : keepF b (l.take i0) = l.take i0 := keepF_all hbf
    have htk0 : l.take (i0 + 1) = l.take i0 ++ [e0] := by rw [List.take_add_one, hl0]; rfl
    have hk1 : keepF b (l.take (i0 + 1)) = l.take i0 := by rw [htk0, keepF_snoc, if_pos hb0, hk0, List.append_nil]
    (repeat' (first | (apply Ab.K.ev; exact ev_) | (apply Ab.K.aops; first | (apply Xg.s; constructor) | (apply Ab.S.guardU; (case hd => rfl); (case hb => (exact ev_; done))) | apply Ab.S.guardG) | (apply Ab.K.aop; first | (apply Og.s; constructor) | (apply Ab.O.clear0; (case hx => exact ev_)) | (apply Ab.O.clearG; (case hz => exact ⟨rfl, rfl⟩))) | (apply Ab.K.gk; first | (apply Xg.s; constructor) | (apply Ab.gY; case hw => assumption) | (apply Ab.gNT; case hw => assumption) | (apply Ab.gNF; case hw => assumption) | ((first | apply Ab.gD | apply Ab.gDN); all_goals (intro _ _; (first | contradiction | (exfalso; omega) | skip)))) | (apply Ab.K.awp; first | (apply Xg.s; constructor)) | (apply Ab.K.at_; exact at_) | (apply Ab.K.acall; first | assumption | fail) | (apply Ab.Rg.mk; omega) | (apply Ab.Lt.mk; first | decide | (simp; done) | (simp; omega) | fail) | (apply Ab.Get.mk; first | rfl | fail) | (apply Ab.Nm.mk; first | exact nrm_) | (apply Xg.s; constructor) | (apply Ab.asm; assumption) | rfl | infer_instance | decide))
    refine AWp.loop (fun kk tm s1 => ∃ (j M : Nat) (r : List E) (cs : List Value), Ev tm (.tmp 0) (.slice (some ⟨q, 0, none⟩) l.length l.length) ∧ Ev tm (.tmp 1) (.func (.func fn) #[] caps) ∧ Ev tm (.tmp 5) (.int .i64 r.length) ∧ Ev tm (.tmp 6) (.int .i64 j) ∧ At s1 q (.cells true 3 cs) ∧ cs.length = l.length * 3 ∧ cs.all pl1 = true ∧ r = keepF b (l.take j) ∧ cs.take (r.length * 3) = ecs r ∧ cs.drop (j * 3) = ecs (l.drop j) ∧ r.length < j ∧ j ≤ l.length ∧ Fr s1 s2 [q] ∧ Top M s1 ∧ N ≤ M ∧ kk = l.length - j) (l.length - (i0 + 1)) ?_ ?_
    · refine ⟨i0 + 1, N, l.take i0, ecs l, by exact ev_, by exact ev_, by rw [List.length_take, Nat.min_eq_left (by omega)]; exact ev_, by exact ev_, hq, ecs_length l, ecs_pl l, hk1.symm, ?_, ?_, by rw [List.length_take]; omega, by omega, Fr.refl _ _, hT, Nat.le_refl _, rfl⟩
      · rw [List.length_take, Nat.min_eq_left (by omega)]
        conv => lhs; rw [← List.take_append_drop i0 l, ecs_append]
        rw [List.take_left' (by rw [ecs_length, List.length_take, Nat.min_eq_left (by omega)])]
      · conv => lhs; rw [← List.take_append_drop (i0 + 1) l, ecs_append]
        rw [List.drop_left' (by rw [ecs_length, List.length_take, Nat.min_eq_left (by omega)])]
    have hq0 := hq
    clear hq hk0 htk0 hk1 hl0 hb0 hbf
    rintro kk tm s1 ⟨j, M, r, cs, e0, e1, e5, e6, aq, hcl, hcp, hr, hct, hcd, hrj, hj, F, T, hNM, hkk⟩
    have hqM := T.lt aq
    by_cases hjn : j < l.length
    · have hi' : l[j]? = some (l[j]'(by omega)) := List.getElem?_eq_getElem (by omega)
      obtain ⟨e, hee⟩ : ∃ e, e = l[j]'(by omega) := ⟨_, rfl⟩
      rw [← hee] at hi'
      have hdj : l.drop j = e :: l.drop (j + 1) := by rw [List.drop_eq_getElem_cons hjn, ← hee]
      have htk : l.take (j + 1) = l.take j ++ [e] := by rw [List.take_add_one, hi']; rfl
      have hE : (cs.drop (j * 3)).take 3 = ec e := by rw [hcd, hdj]; rfl
      have hcd1 : cs.drop ((j + 1) * 3) = ecs (l.drop (j + 1)) := by
        rw [show (j + 1) * 3 = j * 3 + 3 from by omega, ← List.drop_drop, hcd, hdj]; rfl
      have F1 : Fr (s1.set M (.cells true 1 (ec ⟨0, 0, 0⟩))) s2 [q] := Fr.new (hT.free hNM) F
      have F2 : Fr ((s1.set M (.cells true 1 (ec ⟨0, 0, 0⟩))).set M (.cells true 1 (ec e))) s2 [q] := by rw [AHeap.set_set]; exact Fr.new (hT.free hNM) F
      have T2 : Top (M + 1) ((s1.set M (.cells true 1 (ec ⟨0, 0, 0⟩))).set M (.cells true 1 (ec e))) := T.new.set (by omega)
      have cF := hF _ e F2 (List.mem_of_getElem? hi')


      cases hbe : b e
      · rw [hbe] at cF
        have hr1 : r ++ [e] = keepF b (l.take (j + 1)) := by rw [htk, keepF_snoc, if_neg (by rw [hbe]; decide), ← hr]
        have hsp := O.splice_set (c := cs) (l := ec e) (off := r.length * 3) (by show r.length * 3 + 3 ≤ _; omega)
        have hsplen : (splice cs (r.length * 3) (ec e)).length = l.length * 3 := by rw [splice_length, hcl]
        (repeat' (first | (apply Ab.K.ev; exact ev_) | (apply Ab.K.aops; first | (apply Xg.s; constructor) | (apply Ab.S.guardU; (case hd => rfl); (case hb => (exact ev_; done))) | apply Ab.S.guardG) | (apply Ab.K.aop; first | (first | (apply Ab.O.allocA (l := ec ⟨0, 0, 0⟩) M; (case hid => exact T.free (Nat.le_refl _)); (case hp => rfl)) | (apply Ab.O.call; (case hf => exact ev_); (case ha => exact evs_); (case hc => exact cF)) | (apply Ab.O.storeAll; (case hz => rfl); (case hx => exact ev_); (case hy => exact ev_); (case hs => exact at_); (case hl => rfl); (case hc => rfl))) | (apply Og.s; constructor) | (apply Ab.O.clear0; (case hx => exact ev_)) | (apply Ab.O.clearG; (case hz => exact ⟨rfl, rfl⟩))) | (apply Ab.K.gk; first | (apply Xg.s; constructor) | (apply Ab.gY; case hw => assumption) | (apply Ab.gNT; case hw => assumption) | (apply Ab.gNF; case hw => assumption) | ((first | apply Ab.gD | apply Ab.gDN); all_goals (intro _ _; (first | contradiction | (exfalso; omega) | skip)))) | (apply Ab.K.awp; first | (apply Xg.s; constructor)) | (apply Ab.K.at_; exact at_) | (apply Ab.K.acall; first | assumption | fail) | (apply Ab.Rg.mk; omega) | (apply Ab.Lt.mk; first | decide | (simp; done) | (simp; omega) | first | omega | (show (0 + 3 : Nat) < 3 + 1; decide)) | (apply Ab.Get.mk; first | rfl | fail) | (apply Ab.Nm.mk; first | first | exact Eq.trans (congrArg (fun z => List.take _ (List.drop (z * 3) cs)) (Int.toNat_natCast j)) hE | exact (show ((ec e).drop 0).take 3 = ec e from rfl) | exact nrm_) | (apply Xg.s; constructor) | (apply Ab.asm; assumption) | rfl | infer_instance | decide))
        refine X.roundN (l.length - (j + 1)) (by omega) ⟨j + 1, M + 1, r ++ [e], splice cs (r.length * 3) (ec e), by exact ev_, by exact ev_, by rw [List.length_append]; exact ev_, by exact ev_, by exact at_, hsplen, splice_all_pl hcp rfl, hr1, ?_, ?_, by rw [List.length_append]; simp; omega, by omega, Fr.set (by simp) F2, T2.set (by omega), by omega, rfl⟩
        · rw [List.length_append, show (r.length + [e].length) * 3 = r.length * 3 + (ec e).length from by simp [ec]; omega, splice_take (by show r.length * 3 + 3 ≤ _; omega), hct, ecs_append]
          simp [ecs]
        · rw [splice_drop (by show r.length * 3 + 3 ≤ _; omega) (by show r.length * 3 + 3 ≤ _; omega)]; exact hcd1
      · rw [hbe] at cF
        have hr1 : r = keepF b (l.take (j + 1)) := by rw [htk, keepF_snoc, if_pos hbe, List.append_nil, ← hr]
        (repeat' (first | (apply Ab.K.ev; exact ev_) | (apply Ab.K.aops; first | (apply Xg.s; constructor) | (apply Ab.S.guardU; (case hd => rfl); (case hb => (exact ev_; done))) | apply Ab.S.guardG) | (apply Ab.K.aop; first | (first | (apply Ab.O.allocA (l := ec ⟨0, 0, 0⟩) M; (case hid => exact T.free (Nat.le_refl _)); (case hp => rfl)) | (apply Ab.O.call; (case hf => exact ev_); (case ha => exact evs_); (case hc => exact cF)) | (apply Ab.O.storeAll; (case hz => rfl); (case hx => exact ev_); (case hy => exact ev_); (case hs => exact at_); (case hl => rfl); (case hc => rfl))) | (apply Og.s; constructor) | (apply Ab.O.clear0; (case hx => exact ev_)) | (apply Ab.O.clearG; (case hz => exact ⟨rfl, rfl⟩))) | (apply Ab.K.gk; first | (apply Xg.s; constructor) | (apply Ab.gY; case hw => assumption) | (apply Ab.gNT; case hw => assumption) | (apply Ab.gNF; case hw => assumption) | ((first | apply Ab.gD | apply Ab.gDN); all_goals (intro _ _; (first | contradiction | (exfalso; omega) | skip)))) | (apply Ab.K.awp; first | (apply Xg.s; constructor)) | (apply Ab.K.at_; exact at_) | (apply Ab.K.acall; first | assumption | fail) | (apply Ab.Rg.mk; omega) | (apply Ab.Lt.mk; first | decide | (simp; done) | (simp; omega) | first | omega | (show (0 + 3 : Nat) < 3 + 1; decide)) | (apply Ab.Get.mk; first | rfl | fail) | (apply Ab.Nm.mk; first | first | exact Eq.trans (congrArg (fun z => List.take _ (List.drop (z * 3) cs)) (Int.toNat_natCast j)) hE | exact (show ((ec e).drop 0).take 3 = ec e from rfl) | exact nrm_) | (apply Xg.s; constructor) | (apply Ab.asm; assumption) | rfl | infer_instance | decide))
        exact X.roundN (l.length - (j + 1)) (by omega) ⟨j + 1, M + 1, r, cs, by exact ev_, by exact ev_, by exact ev_, by exact ev_, by exact at_, hcl, hcp, hr1, hct, hcd1, by omega, by omega, F2, T2, by omega, rfl⟩
    · obtain rfl : j = l.length := by omega
      rw [List.take_length] at hr
      (repeat' (first | (apply Ab.K.ev; exact ev_) | (apply Ab.K.aops; first | (apply Xg.s; constructor) | (apply Ab.S.guardU; (case hd => rfl); (case hb => (exact ev_; done))) | apply Ab.S.guardG) | (apply Ab.K.aop; first | (apply Og.s; constructor) | (apply Ab.O.clear0; (case hx => exact ev_)) | (apply Ab.O.clearG; (case hz => exact ⟨rfl, rfl⟩))) | (apply Ab.K.gk; first | (apply Xg.s; constructor) | (apply Ab.gY; case hw => assumption) | (apply Ab.gNT; case hw => assumption) | (apply Ab.gNF; case hw => assumption) | ((first | apply Ab.gD | apply Ab.gDN); all_goals (intro _ _; (first | contradiction | (exfalso; omega) | skip)))) | (apply Ab.K.awp; first | (apply Xg.s; constructor)) | (apply Ab.K.at_; exact at_) | (apply Ab.K.acall; first | assumption | fail) | (apply Ab.Rg.mk; omega) | (apply Ab.Lt.mk; first | decide | (simp; done) | (simp; omega) | first | omega | (show (0 + 3 : Nat) < 3 + 1; decide)) | (apply Ab.Get.mk; first | rfl | fail) | (apply Ab.Nm.mk; first | first | exact Eq.trans (congrArg (fun z => List.take _ (List.drop (z * 3) cs)) (Int.toNat_natCast j)) hE | exact (show ((ec e).drop 0).take 3 = ec e from rfl) | exact nrm_) | (apply Xg.s; constructor) | (apply Ab.asm; assumption) | rfl | infer_instance | decide))
      all_goals ((first | apply RetE.ret | apply RetE.normal); (case he => exact evr_); (case hg => rfl))
      · rw [Int.toNat_natCast, ← hr]
        exact ⟨splice cs (r.length * 3) (zrep (l.length - r.length) [.int .i64 0, .int .i64 0, .int .i64 0]), rfl, rfl, by rw [splice_length, hcl], splice_all_pl hcp (zrep_pl rfl), by rw [splice_take_le (by rw [zrep_length]; show _ + (l.length - r.length) * 3 ≤ _; omega) (Nat.le_refl _)]; exact hct⟩
      · rw [Nat.zero_add, Int.toNat_natCast]
        refine Keeps.one hq0.eq (AHeap.set_same _ _ _) (fun i hi c hc => ?_) (nm_scal (splice_all_pl hcp (zrep_pl rfl))) (by simp [resV, nmR, nmB, nm1, nmA, hq0.eq])
        rw [AHeap.set_other _ _ hi]
        exact F i (by simpa using hi) c hc
  · rw [keepF_all hall]
    clear c38
    (repeat' (first | (apply Ab.K.ev; exact ev_) | (apply Ab.K.aops; first | (apply Xg.s; constructor) | (apply Ab.S.guardU; (case hd => rfl); (case hb => (exact ev_; done))) | apply Ab.S.guardG) | (apply Ab.K.aop; first | (apply Og.s; constructor) | (apply Ab.O.clear0; (case hx => exact ev_)) | (apply Ab.O.clearG; (case hz => exact ⟨rfl, rfl⟩))) | (apply Ab.K.gk; first | (apply Xg.s; constructor) | (apply Ab.gY; case hw => assumption) | (apply Ab.gNT; case hw => assumption) | (apply Ab.gNF; case hw => assumption) | ((first | apply Ab.gD | apply Ab.gDN); all_goals (intro _ _; (first | contradiction | (exfalso; omega) | skip)))) | (apply Ab.K.awp; first | (apply Xg.s; constructor)) | (apply Ab.K.at_; exact at_) | (apply Ab.K.acall; first | assumption | fail) | (apply Ab.Rg.mk; omega) | (apply Ab.Lt.mk; first | decide | (simp; done) | (simp; omega) | first | omega | (show (0 + 3 : Nat) < 3 + 1; decide)) | (apply Ab.Get.mk; first | rfl | fail) | (apply Ab.Nm.mk; first | first | exact Eq.trans (congrArg (fun z => List.take _ (List.drop (z * 3) cs)) (Int.toNat_natCast j)) hE | exact (show ((ec e).drop 0).take 3 = ec e from rfl) | exact nrm_) | (apply Xg.s; constructor) | (apply Ab.asm; assumption) | rfl | infer_instance | decide))
    all_goals ((first | apply RetE.ret | apply RetE.normal); (case he => exact evr_); (case hg => rfl))
    · exact ⟨ecs l, rfl, (set_id hq).symm, ecs_length l, ecs_pl l, by rw [← ecs_length, List.take_length]⟩
    · exact Keeps.self (by simp [resV, nmR, nmB, nm1, nmA, hq.eq])
end Go.Proofs.Ytdbnpghckgmaoaa

/- trees: the next node. -/
namespace Go.Proofs.Ytdbnpghckgmaoaa
set_option linter.unusedVariables false
set_option linter.unusedSimpArgs false
set_option linter.unusedSectionVars false
open Go.RowKit Ab TP
attribute [local irreducible] AOps AOpsD AOp AWp put nargs AHeap.set At Free ACall ACallE thenQ blockQ roundQ RetQ RetE Src bsn
theorem next12_err {s : AHeap} {v : Value} {x : Int} {a b : Int} (hx : x ≠ 0) (c11 : ACall Try.prog 34 [v, .int .i64 a, .int .i64 b] s (.tuple #[.slice none 0 0, .int .i64 x]) s) :
    ACall Try.prog 21 [v, .int .i64 a, .int .i64 b] s (.tuple #[.int .i64 0, .int .i64 x]) s := by

  (refine ACall.make Try.func21 rfl (by kernel_rfl) (by decide) rfl (fun N hN => ?_); have hT : Top N _ := hN; (repeat' (first | (apply Ab.K.ev; exact ev_) | (apply Ab.K.aops; first | (apply Xg.s; constructor) | (apply Ab.S.guardU; (case hd => rfl); (case hb => (exact ev_; done))) | apply Ab.S.guardG) | (apply Ab.K.aop; first | (apply Og.s; constructor)) | (apply Ab.K.gk; first | (apply Xg.s; constructor) | (apply Ab.gY; case hw => assumption) | (apply Ab.gNT; case hw => assumption) | (apply Ab.gNF; case hw => assumption) | ((first | apply Ab.gD | apply Ab.gDN); all_goals (intro _ _; (first | contradiction | (exfalso; omega) | skip)))) | (apply Ab.K.awp; first | (apply Xg.s; constructor)) | (apply Ab.K.at_; exact at_) | (apply Ab.K.acall; first | assumption | exact c11) | (apply Ab.Rg.mk; omega) | (apply Ab.Lt.mk; first | decide | (simp; done) | (simp; omega) | fail) | (apply Ab.Get.mk; first | rfl | fail) | (apply Ab.Nm.mk; first | exact nrm_) | (apply Xg.s; constructor) | (apply Ab.asm; assumption) | rfl | infer_instance | decide)); (all_goals ((first | apply RetQ.ret | apply RetQ.normal); (case he => exact evr_); (case hg => rfl))); (all_goals first | rfl | (apply Keeps.fr; (case h => exact fr_); (case hv => exact plR.nm rfl)) | fail))
theorem next12_yes {s : AHeap} {v : Value} {a b y : Int} {p : List Int} (hp : p.length ≤ 64) (hpl : 1 ≤ p.length) (hy : (p ++ [b])[1]? = some y) (c11 : ∀ o, s o = none → ACall Try.prog 34 [v, .int .i64 a, .int .i64 b] s (.tuple #[.slice (some ⟨o, 0, none⟩) p.length p.length, .int .i64 0]) (s.set o (.cells true 1 (ints p)))) :
    ACall Try.prog 21 [v, .int .i64 a, .int .i64 b] s (.tuple #[.int .i64 y, .int .i64 0]) s := by
  refine ACall.make Try.func21 rfl (by kernel_rfl) (by decide) rfl (fun N hN => ?_)
  have hT : Top N s := hN
  have c1 := c11 N (hT.none (Nat.le_refl _))
  have hcl : (ints p).length = p.length := ints_length p


  (repeat' (first | (apply Ab.K.ev; exact ev_) | (apply Ab.K.aops; first | (apply Xg.s; constructor) | (apply Ab.S.guardU; (case hd => rfl); (case hb => (exact ev_; done))) | apply Ab.S.guardG) | (apply Ab.K.aop; first | (apply Ab.O.build1 (N + 1); (case hx => exact ev_); (case hv => exact ⟨rfl, rfl⟩); (case hz => exact ⟨rfl, rfl⟩); (case hid => exact free_)) | (apply Og.s; constructor)) | (apply Ab.K.gk; first | (apply Xg.s; constructor) | (apply Ab.gY; case hw => assumption) | (apply Ab.gNT; case hw => assumption) | (apply Ab.gNF; case hw => assumption) | ((first | apply Ab.gD | apply Ab.gDN); all_goals (intro _ _; (first | contradiction | (exfalso; omega) | skip)))) | (apply Ab.K.awp; first | (apply Xg.s; constructor)) | (apply Ab.K.at_; exact at_) | (apply Ab.K.acall; first | assumption | exact c1) | (apply Ab.Rg.mk; omega) | (apply Ab.Lt.mk; first | decide | (simp; done) | (simp; omega) | fail) | (apply Ab.Get.mk; first | rfl | fail) | (apply Ab.Nm.mk; first | exact nrm_) | (apply Xg.s; constructor) | (apply Ab.asm; assumption) | rfl | infer_instance | decide))
  (apply Ab.O.appendL (N + 2); (case hx => exact ev_); (case hL => first | exact LAt.nil | exact LAt.blk (by exact at_) (by first | rfl | exact hcl | (rw [Nat.mul_one]; exact hcl) | simp [ints_length])); (case hy => exact ev_); (case hs => first | exact Src.sl (by exact at_) (by decide) (by decide) rfl | exact srcAll (by exact at_) (by first | rfl | exact hcl | (rw [Nat.mul_one]; exact hcl) | simp [ints_length])); (case hk => rfl); (case hm => decide); (case hl => first | rfl | first | rfl | exact hcl | (rw [Nat.mul_one]; exact hcl) | simp [ints_length]); (case hz => decide); (case hb => omega); (case hfree => exact free_))
  intro s2 g
  have F : Fr s2 s [] := g.fr (Fr.new (hT.free (by omega)) (Fr.new (hT.free (by omega)) (Fr.refl _ _))) (fun q' e => .inl (hT.none (by have := Option.some.inj e; omega)))
  have gh := g.hit
  have gy : (ints p ++ [.int .i64 b])[Int.toNat 1]? = some (.int .i64 y) := by
    have := ints_get hy
    rwa [ints_append] at this

  (repeat' (first | (apply Ab.K.ev; exact ev_) | (apply Ab.K.aops; first | (apply Xg.s; constructor) | (apply Ab.S.guardU; (case hd => rfl); (case hb => (exact ev_; done))) | apply Ab.S.guardG) | (apply Ab.K.aop; first | (apply Og.s; constructor)) | (apply Ab.K.gk; first | (apply Xg.s; constructor) | (apply Ab.gY; case hw => assumption) | (apply Ab.gNT; case hw => assumption) | (apply Ab.gNF; case hw => assumption) | ((first | apply Ab.gD | apply Ab.gDN); all_goals (intro _ _; (first | contradiction | (exfalso; omega) | skip)))) | (apply Ab.K.awp; first | (apply Xg.s; constructor)) | (apply Ab.K.at_; exact at_) | (apply Ab.K.acall; first | assumption | fail) | (apply Ab.Rg.mk; omega) | (apply Ab.Lt.mk; first | decide | (simp; done) | (simp; omega) | fail) | (apply Ab.Get.mk; first | rfl | first | exact gy | (rw [Nat.mul_one]; exact gy)) | (apply Ab.Nm.mk; first | exact nrm_) | (apply Xg.s; constructor) | (apply Ab.asm; assumption) | rfl | infer_instance | decide))
  all_goals ((first | apply RetQ.ret | apply RetQ.normal); (case he => exact evr_); (case hg => rfl))
  all_goals first | rfl | exact Keeps.fr F (plR.nm rfl)
end Go.Proofs.Ytdbnpghckgmaoaa

/- trees: the program's sides. -/
namespace Go.Proofs.Ytdbnpghckgmaoaa
set_option linter.unusedVariables false
set_option linter.unusedSimpArgs false
set_option linter.unusedSectionVars false
open Go.RowKit Ab TP
attribute [local irreducible] AOps AOpsD AOp AWp put nargs AHeap.set At Free ACall ACallE thenQ blockQ roundQ RetQ RetE Src bsn Gr




/-- What the program's side answers. -/
noncomputable def sOk (l : List E) (a : Int) : Bool := gfB l && decide (TP.Node a)
theorem sOk_iff {l : List E} {a : Int} : sOk l a = true ↔ TP.Good l ∧ Forest l ∧ TP.Node a := by
  unfold sOk gfB
  simp only [Bool.and_eq_true, decide_eq_true_iff, foB_iff, and_assoc]

theorem keepF_rm {l : List E} {e : E} : keepF (fun f => decide (f = e)) l = rm l e := by
  unfold keepF rm
  exact List.filter_congr fun f _ => by simp
theorem rm_none {l : List E} {e : E} (h : e ∉ l) : rm l e = l := List.filter_eq_self.2 fun f hf => by
  rw [decide_eq_true_iff]; exact fun e1 => h (e1 ▸ hf)
theorem rm_lt {l : List E} {e : E} (h : e ∈ l) : (rm l e).length < l.length := by
  have hs : (rm l e).length ≤ l.length := rm_len
  by_cases hh : (rm l e).length = l.length
  · have := (List.filter_sublist (l := l) (p := fun f => decide (f ≠ e))).eq_of_length hh
    have h2 : e ∈ rm l e := by unfold rm; rw [this]; exact h
    exact absurd rfl (mem_rm.1 h2).2
  · omega
/-- Edges in a slice's first cells. -/
theorem EA.part {s : AHeap} {q c : Nat} {cs : List Value} {l : List E} (h : At s q (.cells true 3 cs)) (hc : cs.length = c * 3) (hx : cs.take (l.length * 3) = ecs l) : EA s (.slice (some ⟨q, 0, none⟩) l.length c) (some q) l := by
  refine .blk h ?_ hx
  have := congrArg List.length hx
  rw [List.length_take, ecs_length] at this
  omega





end Go.Proofs.Ytdbnpghckgmaoaa

/- trees: the small question, and the theorem of ways. -/
namespace Go.Proofs.Ytdbnpghckgmaoaa
set_option linter.unusedVariables false
set_option linter.unusedSimpArgs false
set_option linter.unusedSectionVars false
open Go.RowKit Ab TP
attribute [local irreducible] AOps AOpsD AOp AWp put nargs AHeap.set At Free ACall ACallE thenQ blockQ roundQ RetQ RetE Src bsn
abbrev e1 : E := ⟨1, 2, 0⟩
abbrev e2 : E := ⟨2, 3, 0⟩
theorem el_good : TP.Good [e1, e2] := by decide
theorem el_forest : Forest [e1, e2] := by
  show Forest (([] ++ [e1]) ++ [e2])
  refine Forest.snoc.2 ⟨Forest.snoc.2 ⟨Forest.nil, fun h => absurd h.nil (by decide)⟩, fun h => ?_⟩
  rcases Conn.add (l := []) (e := e1) (fun f hf => .inl (by simpa using hf)) h with h | ⟨h, _⟩ | ⟨_, h⟩
  · exact absurd h.nil (by decide)
  · exact absurd h.nil (by decide)
  · exact absurd h.nil (by decide)
theorem el_way : TP.Way [e1, e2] 3 1 [3, 2, 1] :=
  .cons ⟨e2, by simp, .inr ⟨rfl, rfl⟩⟩ (by decide) (.cons ⟨e1, by simp, .inr ⟨rfl, rfl⟩⟩ (by decide) (.one 1))
theorem el_ok : wOk [e1, e2] 3 1 = true := wOk_iff.2 ⟨el_good, el_forest, by decide, by decide⟩

end Go.Proofs.Ytdbnpghckgmaoaa

/- trees: all behind a node, the program's. -/
namespace Go.Proofs.Ytdbnpghckgmaoaa
set_option linter.unusedVariables false
set_option linter.unusedSimpArgs false
set_option linter.unusedSectionVars false
open Go.RowKit Ab TP
attribute [local irreducible] AOps AOpsD AOp AWp put nargs AHeap.set At Free ACall ACallE thenQ blockQ roundQ RetQ RetE Src bsn Gr
theorem below35 {s : AHeap} {I W q : Nat} {rw1 : Bool} {p : List Int} {e : E} {a y : Int} (hI : At s I (.cells true 1 [.int .i64 a])) (hw : At s W (.cells true 1 [.slice (some ⟨q, 0, none⟩) p.length p.length])) (hq : At s q (.cells rw1 1 (ints p))) (hy : p[1]? = some y) :
    ACall Try.prog 39 (.agg (ec e).toArray :: #[Value.pointer (some ⟨I, 0, none⟩), .pointer (some ⟨W, 0, none⟩)].toList) s (.bool (decide (other e a = y))) s := by
  refine ACall.make Try.func39 rfl (by kernel_rfl) (by decide) rfl (fun N hN => ?_)
  have hT : Top N s := hN
  have hWN := hT.lt hw
  have hIN := hT.lt hI
  have hqN := hT.lt hq
  have hyl := (List.getElem?_eq_some_iff.1 hy).1
  have gy := ints_get hy
  have c36 : ∀ s : AHeap, ACall Try.prog 40 [.agg (ec e).toArray, .int .i64 a] s (.int .i64 (other e a)) s := fun s => other36





  (repeat' (first | (apply Ab.K.ev; exact ev_) | (apply Ab.K.aops; first | (apply Xg.s; constructor) | (apply Ab.S.guardU; (case hd => rfl); (case hb => (exact ev_; done))) | apply Ab.S.guardG) | (apply Ab.K.aop; first | (apply Ab.O.boxA (N + 0); (case hx => exact ev_); (case hid => exact frees_)) | (apply Og.s; constructor)) | (apply Ab.K.gk; first | (apply Xg.s; constructor) | (apply Ab.gY; case hw => assumption) | (apply Ab.gNT; case hw => assumption) | (apply Ab.gNF; case hw => assumption) | ((first | apply Ab.gD | apply Ab.gDN); all_goals (intro _ _; (first | contradiction | (exfalso; omega) | skip)))) | (apply Ab.K.aopsD; first | (apply Ab.D.q0t; (case hw => rfl); (case hot => rfl)) | (apply Ab.D.w1t; (case hw => rfl); (case hot => rfl)) | (apply Ab.D.q0; (case hw => rfl); intro _ _) | (apply Ab.D.w1n; (case hw => rfl); intro _ _) | (apply Ab.D.w2n; (case hw => rfl); intro _ _) | (apply Xg.s; constructor) | fail | apply Ab.D.guardG) | exact ⟨rfl, rfl⟩ | (apply Ab.K.awp; first | (apply AWp.draw (id := 1) [[], [], [0, 1], [], [3], [3, 4], [0, 1, 2, 3, 4, 5], [0, 1, 2, 3, 4, 5, 6]] [] (by kernel_rfl) (by kernel_rfl) (by simp [apartW, unordB, cC] <;> omega)) | (apply Xg.s; constructor)) | (apply Ab.K.at_; exact at_) | (apply Ab.K.acall; first | assumption | exact c36 _) | (apply Ab.Rg.mk; omega) | (apply Ab.Lt.mk; first | decide | (simp; done) | (simp; omega) | first | omega | (show (0 + 3 : Nat) < 3 + 1; decide)) | (apply Ab.Get.mk; first | rfl | first | rfl | exact gy) | (apply Ab.Nm.mk; first | first | exact (show ((ec e).drop 0).take 3 = ec e from rfl) | exact nrm_) | (apply Xg.s; constructor) | (apply Ab.asm; assumption) | rfl | infer_instance | decide))
  all_goals ((first | apply RetQ.ret | apply RetQ.normal); (case he => exact evr_); (case hg => rfl))
  all_goals first | rfl | (apply Keeps.fr; (case h => exact fr_); (case hv => exact plR.nm rfl))


theorem below16_err {s : AHeap} {v : Value} {x root a : Int} (hx : x ≠ 0) (c11 : ∀ s1 : AHeap, Fr s1 s [] → ACall Try.prog 34 [v, .int .i64 a, .int .i64 root] s1 (.tuple #[.slice none 0 0, .int .i64 x]) s1) :
    ACall Try.prog 24 [v, .int .i64 root, .int .i64 a] s (.tuple #[.slice none 0 0, .int .i64 x]) s := by
  refine ACall.make Try.func24 rfl (by kernel_rfl) (by decide) rfl (fun N hN => ?_)
  have hT : Top N s := hN
  have c1 := c11 (s.set N (.cells true 1 [.int .i64 a])) (Fr.new (hT.free (Nat.le_refl _)) (Fr.refl _ _))

  (repeat' (first | (apply Ab.K.ev; exact ev_) | (apply Ab.K.aops; first | (apply Xg.s; constructor) | (apply Ab.S.guardU; (case hd => rfl); (case hb => (exact ev_; done))) | apply Ab.S.guardG) | (apply Ab.K.aop; first | (first | (apply Ab.O.alloc1 (N + 1); (case hid => exact frees_); (case hp => rfl)) | (apply Ab.O.box1 N; (case hx => exact ev_); (case hid => exact hT.free (Nat.le_refl _)); (case hv => rfl); (case hn => rfl))) | (apply Og.s; constructor)) | (apply Ab.K.gk; first | (apply Xg.s; constructor) | (apply Ab.gY; case hw => assumption) | (apply Ab.gNT; case hw => assumption) | (apply Ab.gNF; case hw => assumption) | ((first | apply Ab.gD | apply Ab.gDN); all_goals (intro _ _; (first | contradiction | (exfalso; omega) | skip)))) | (apply Ab.K.awp; first | (apply Xg.s; constructor)) | (apply Ab.K.at_; exact at_) | (apply Ab.K.acall; first | assumption | exact c1) | (apply Ab.Rg.mk; omega) | (apply Ab.Lt.mk; first | decide | (simp; done) | (simp; omega) | first | omega | (show (0 + 3 : Nat) < 3 + 1; decide)) | (apply Ab.Get.mk; first | rfl | first | rfl | exact gy) | (apply Ab.Nm.mk; first | first | exact (show ((ec e).drop 0).take 3 = ec e from rfl) | exact nrm_) | (apply Xg.s; constructor) | (apply Ab.asm; assumption) | rfl | infer_instance | decide))
  all_goals ((first | apply RetQ.ret | apply RetQ.normal); (case he => exact evr_); (case hg => rfl))
  all_goals first | rfl | (apply Keeps.fr; (case h => exact fr_); (case hv => exact plR.nm rfl))

theorem bel_self {l : List E} {a : Int} (ha : TP.Node a) : bel l a a = side l a := by
  unfold bel side
  refine lkN_congr fun i h1 h2 => ?_
  rw [Bool.eq_iff_iff, belB_iff, reachB_iff]
  constructor
  · rintro ⟨_, p, hp, _⟩
    exact ⟨ha, hp.conn⟩
  · rintro ⟨_, hc⟩
    obtain ⟨p, hp⟩ := Way.ex hc
    exact ⟨ha, p, hp, hp.mem_first⟩
theorem bel_rm {l : List E} (hc : Cut l) {a root w1 : Int} {t : List Int} (ha : TP.Node a) (hr : TP.Node root) (hw : TP.Way l a root (a :: w1 :: t)) {e : E} (he : e ∈ l) (hh : e.has a w1) : bel l root a = side (rm l e) a := by
  unfold bel side
  refine lkN_congr fun i h1 h2 => ?_
  rw [Bool.eq_iff_iff, belB_iff, reachB_iff]
  constructor
  · rintro ⟨_, p, hp, hm⟩
    exact ⟨ha, (below_iff hc hw he hh hp).1 hm⟩
  · rintro ⟨_, hcn⟩
    obtain ⟨p, hp⟩ := Way.ex (hw.conn.symm.trans (hcn.mono rm_sub))
    exact ⟨hr, p, hp, (below_iff hc hw he hh hp).2 hcn⟩
theorem below16_self {s : AHeap} {A : Option Addr} {n c : Nat} {on : Option Nat} {l : List E} {a : Int} {o : Nat} (h : EA s (.slice A n c) on l) (hn : n ≤ 512) (hok : wOk l a a = true) (ho : s o = none) :
    ACall Try.prog 24 [.slice A n c, .int .i64 a, .int .i64 a] s (.tuple #[.slice (some ⟨o, 0, none⟩) (side l a).length (side l a).length, .int .i64 0]) (s.set o (.cells true 1 (ints (side l a)))) := by
  obtain ⟨hg, hf, ha, _⟩ := wOk_iff.1 hok
  refine ACall.make Try.func24 rfl (by kernel_rfl) (by decide) rfl (fun N hN => ?_)
  have hT : Top N s := hN
  obtain ⟨s1, hs1⟩ : ∃ s1, s1 = s.set N (.cells true 1 [.int .i64 a]) := ⟨_, rfl⟩
  have T1 : Top (N + 1) s1 := by rw [hs1]; exact hT.new
  have F1 : Fr s1 s [] := by rw [hs1]; exact Fr.new (hT.free (Nat.le_refl _)) (Fr.refl _ _)
  have c1 := way11_yes (o := N + 1) (h.fr F1) hn hok (.one a) (T1.none (Nat.le_refl _))
  obtain ⟨s2, hs2⟩ : ∃ s2, s2 = ((s1.set (N + 1) (.cells true 1 (ints [a]))).set (N + 2) (.cells true 1 [.slice none 0 0])).set (N + 2) (.cells true 1 [.slice (some ⟨N + 1, 0, none⟩) 1 1]) := ⟨_, rfl⟩
  have T2 : Top (N + 3) s2 := by rw [hs2, AHeap.set_set]; exact T1.new.new
  have F2 : Fr s2 s [] := by rw [hs2, AHeap.set_set]; exact Fr.new (hT.free (by omega)) (Fr.new (hT.free (by omega)) F1)
  have c34 := linked34 (o := N + 3) (h.fr F2) hg ha hn (T2.none (Nat.le_refl _))
  rw [hs2, hs1] at c34
  rw [hs1] at c1

  (repeat' (first | (apply Ab.K.ev; exact ev_) | (apply Ab.K.aops; first | (apply Xg.s; constructor) | (apply Ab.S.guardU; (case hd => rfl); (case hb => (exact ev_; done))) | apply Ab.S.guardG) | (apply Ab.K.aop; first | (first | (apply Ab.O.alloc1 (N + 2); (case hid => exact frees_); (case hp => rfl)) | (apply Ab.O.box1 N; (case hx => exact ev_); (case hid => exact hT.free (Nat.le_refl _)); (case hv => rfl); (case hn => rfl))) | (apply Og.s; constructor)) | (apply Ab.K.gk; first | (apply Xg.s; constructor) | (apply Ab.gY; case hw => assumption) | (apply Ab.gNT; case hw => assumption) | (apply Ab.gNF; case hw => assumption) | ((first | apply Ab.gD | apply Ab.gDN); all_goals (intro _ _; (first | contradiction | (exfalso; omega) | skip)))) | (apply Ab.K.awp; first | (apply Xg.s; constructor)) | (apply Ab.K.at_; exact at_) | (apply Ab.K.acall; first | assumption | first | exact c1 | exact c34) | (apply Ab.Rg.mk; omega) | (apply Ab.Lt.mk; first | decide | (simp; done) | (simp; omega) | first | omega | (show (0 + 3 : Nat) < 3 + 1; decide)) | (apply Ab.Get.mk; first | rfl | first | rfl | exact gy) | (apply Ab.Nm.mk; first | first | exact (show ((ec e).drop 0).take 3 = ec e from rfl) | exact nrm_) | (apply Xg.s; constructor) | (apply Ab.asm; assumption) | rfl | infer_instance | decide))
  rw [← hs1, ← hs2]
  apply RetQ.retR (renL (dn [(o, N + 3, .cells true 1 (ints (side l a)))]))
  (case he => exact evr_)
  (case hg => rfl)
  · simp [resV, mpR, mpB, mp1, mpA, renL_hit]
  · exact KeepsR.new1 ho (hT.none (by omega)) (Fr.new (hT.free (by omega)) F2) At.hit (ints_pl _) (by simp [nmR, nmB, nm1, nmA])
  · simp

set_option maxHeartbeats 4000000 in
theorem below16_yes {s : AHeap} {A : Option Addr} {n c : Nat} {on : Option Nat} {l : List E} {root a w1 : Int} {t : List Int} {e : E} {o : Nat} (h : EA s (.slice A n c) on l) (hn : n ≤ 512) (hok : wOk l a root = true) (hw : TP.Way l a root (a :: w1 :: t)) (he : e ∈ l) (hh : e.has a w1) (hne : a ≠ root) (ho : s o = none) :
    ACall Try.prog 24 [.slice A n c, .int .i64 root, .int .i64 a] s (.tuple #[.slice (some ⟨o, 0, none⟩) (side (rm l e) a).length (side (rm l e) a).length, .int .i64 0]) (s.set o (.cells true 1 (ints (side (rm l e) a)))) := by
  obtain ⟨hg, hf, ha, hr⟩ := wOk_iff.1 hok
  have hnl : n = l.length := by obtain ⟨_, _, e⟩ := h.isl; injection e
  have hw1 := hw.nodes (Good.node hg) ha w1 (by simp)
  have hlw := hw.short (Good.node hg) ha
  obtain ⟨p, hp⟩ : ∃ p, p = a :: w1 :: t := ⟨_, rfl⟩
  have hp1 : p[1]? = some w1 := by rw [hp]; rfl
  rw [← hp] at hw hlw
  rcases h.addr with rfl | ⟨q0, rfl⟩
  · obtain ⟨_, _, rfl⟩ := h.nil_len; cases he
  refine ACall.make Try.func24 rfl (by kernel_rfl) (by decide) rfl (fun N hN => ?_)
  have hT : Top N s := hN
  obtain ⟨s1, hs1⟩ : ∃ s1, s1 = s.set N (.cells true 1 [.int .i64 a]) := ⟨_, rfl⟩
  have T1 : Top (N + 1) s1 := by rw [hs1]; exact hT.new
  have F1 : Fr s1 s [] := by rw [hs1]; exact Fr.new (hT.free (Nat.le_refl _)) (Fr.refl _ _)
  have c1 := way11_yes (o := N + 1) (h.fr F1) hn hok hw (T1.none (Nat.le_refl _))
  obtain ⟨s2, hs2⟩ : ∃ s2, s2 = ((s1.set (N + 1) (.cells true 1 (ints p))).set (N + 2) (.cells true 1 [.slice none 0 0])).set (N + 2) (.cells true 1 [.slice (some ⟨N + 1, 0, none⟩) p.length p.length]) := ⟨_, rfl⟩
  have T2 : Top (N + 3) s2 := by rw [hs2, AHeap.set_set]; exact T1.new.new
  have F2 : Fr s2 s [] := by rw [hs2, AHeap.set_set]; exact Fr.new (hT.free (by omega)) (Fr.new (hT.free (by omega)) F1)
  have c32 := clone32 (h.fr F2) hn (T2.none (Nat.le_refl _))
  obtain ⟨s3, hs3⟩ : ∃ s3, s3 = s2.set (N + 3) (.cells true 3 (ecs l)) := ⟨_, rfl⟩
  have F3 : Fr s3 s [] := by rw [hs3]; exact Fr.new (hT.free (by omega)) F2
  have T3 : Top (N + 4) s3 := by rw [hs3]; exact T2.new
  have aI : At s3 N (.cells true 1 [.int .i64 a]) := by rw [hs3, hs2, hs1]; exact at_
  have aP : At s3 (N + 1) (.cells true 1 (ints p)) := by rw [hs3, hs2]; exact at_
  have aW : At s3 (N + 2) (.cells true 1 [.slice (some ⟨N + 1, 0, none⟩) p.length p.length]) := by rw [hs3, hs2]; exact at_
  have aq : At s3 (N + 3) (.cells true 3 (ecs l)) := by rw [hs3]; exact At.hit
  have c31 := deleteF31 (fn := 39) (caps := #[.pointer (some ⟨N, 0, none⟩), .pointer (some ⟨N + 2, 0, none⟩)]) (b := fun e => decide (other e a = w1)) aq hnl hn (fun s4 f F4 _ => below35 (At.var (F4 N (by simp) _ aI.eq)) (At.var (F4 (N + 2) (by simp) _ aW.eq)) (At.var (F4 (N + 1) (by simp) _ aP.eq)) hp1)
  have hkr : keepF (fun e => decide (other e a = w1)) l = rm l e := by
    unfold keepF rm
    refine List.filter_congr fun f hf => ?_
    rw [Bool.eq_iff_iff, Bool.not_eq_true', decide_eq_false_iff_not, decide_eq_true_iff]
    refine not_congr ⟨fun h1 => ?_, fun h1 => ?_⟩
    · have h2 : f.has a w1 := by rw [← h1]; exact other_has (by rw [h1]; have := hw1.1; omega)
      exact hg.eq hf he h2 hh
    · rw [h1]; exact has_other (hg.1 e he) hh
  rw [hkr] at c31
  have hnr : ¬ (a = root) := hne
  rw [hs3, hs2, hs1] at c31
  rw [hs2, hs1] at c32
  rw [hs1] at c1

  (repeat' (first | (apply Ab.K.ev; exact ev_) | (apply Ab.K.aops; first | (apply Xg.s; constructor) | (apply Ab.S.guardU; (case hd => rfl); (case hb => (exact ev_; done))) | apply Ab.S.guardG) | (apply Ab.K.aop; first | (first | (apply Ab.O.alloc1 (N + 2); (case hid => exact frees_); (case hp => rfl)) | (apply Ab.O.box1 N; (case hx => exact ev_); (case hid => exact hT.free (Nat.le_refl _)); (case hv => rfl); (case hn => rfl)) | (apply Ab.O.makeFunc; (case h1 => exact evs_); (case h2 => exact evs_); (case a1 => rfl); (case a2 => rfl)) | (apply Ab.O.callFE; (case ha => exact evs_); (case hc => exact c31))) | (apply Og.s; constructor)) | (apply Ab.K.gk; first | (apply Xg.s; constructor) | (apply Ab.gY; case hw => assumption) | (apply Ab.gNT; case hw => assumption) | (apply Ab.gNF; case hw => assumption) | ((first | apply Ab.gD | apply Ab.gDN); all_goals (intro _ _; (first | contradiction | (exfalso; omega) | skip)))) | (apply Ab.K.awp; first | (apply Xg.s; constructor)) | (apply Ab.K.at_; exact at_) | (apply Ab.K.acall; first | assumption | first | exact c1 | exact c32) | (apply Ab.Rg.mk; omega) | (apply Ab.Lt.mk; first | decide | (simp; done) | (simp; omega) | first | omega | (show (0 + 3 : Nat) < 3 + 1; decide)) | (apply Ab.Get.mk; first | rfl | first | rfl | exact gy) | (apply Ab.Nm.mk; first | first | exact (show ((ec e).drop 0).take 3 = ec e from rfl) | exact nrm_) | (apply Xg.s; constructor) | (apply Ab.asm; assumption) | rfl | infer_instance | decide))
  rw [← hs1, ← hs2, ← hs3]
  rintro v s4 ⟨cs, rfl, rfl, hcl, hcp, hct⟩
  clear c1 c31 c32
  have F4 : Fr (s3.set (N + 3) (.cells true 3 cs)) s [] := by rw [hs3, AHeap.set_set]; exact Fr.new (hT.free (by omega)) F2
  have T4 : Top (N + 4) (s3.set (N + 3) (.cells true 3 cs)) := T3.set (by omega)
  have c34 := linked34 (o := N + 4) (EA.part (l := rm l e) (At.hit (s := s3)) hcl hct) (hg.rm e) ha (Nat.le_trans rm_len (by omega)) (T4.none (Nat.le_refl _))
  have aI2 : At (s3.set (N + 3) (.cells true 3 cs)) N (.cells true 1 [.int .i64 a]) := At.miss (by omega) aI

  (repeat' (first | (apply Ab.K.ev; exact ev_) | (apply Ab.K.aops; first | (apply Xg.s; constructor) | (apply Ab.S.guardU; (case hd => rfl); (case hb => (exact ev_; done))) | apply Ab.S.guardG) | (apply Ab.K.aop; first | (apply Og.s; constructor)) | (apply Ab.K.gk; first | (apply Xg.s; constructor) | (apply Ab.gY; case hw => assumption) | (apply Ab.gNT; case hw => assumption) | (apply Ab.gNF; case hw => assumption) | ((first | apply Ab.gD | apply Ab.gDN); all_goals (intro _ _; (first | contradiction | (exfalso; omega) | skip)))) | (apply Ab.K.awp; first | (apply Xg.s; constructor)) | (apply Ab.K.at_; exact at_) | (apply Ab.K.acall; first | assumption | exact c34) | (apply Ab.Rg.mk; omega) | (apply Ab.Lt.mk; first | decide | (simp; done) | (simp; omega) | first | omega | (show (0 + 3 : Nat) < 3 + 1; decide)) | (apply Ab.Get.mk; first | rfl | first | rfl | exact gy) | (apply Ab.Nm.mk; first | first | exact (show ((ec e).drop 0).take 3 = ec e from rfl) | exact nrm_) | (apply Xg.s; constructor) | (apply Ab.asm; assumption) | rfl | infer_instance | decide))
  apply RetQ.retR (renL (dn [(o, N + 4, .cells true 1 (ints (side (rm l e) a)))]))
  (case he => exact evr_)
  (case hg => rfl)
  · simp [resV, mpR, mpB, mp1, mpA, renL_hit]
  · exact KeepsR.new1 ho (hT.none (by omega)) (Fr.new (hT.free (by omega)) F4) At.hit (ints_pl _) (by simp [nmR, nmB, nm1, nmA])
  · simp
end Go.Proofs.Ytdbnpghckgmaoaa

/- routes: why nothing is told, the next hop, the leader; by the program and by the document. -/
namespace Go.Proofs.Ytdbnpghckgmaoaa
set_option linter.unusedVariables false
set_option linter.unusedSimpArgs false
set_option linter.unusedSectionVars false
open Go.RowKit Ab TP VP
/-- Why nothing is told of a node. -/
noncomputable def chk (nodes : List Int) (L : List Kn) (a : Int) : Int := if mvB nodes L = true ∧ TP.Node a then (if foB (bnd L) = true then (if a ∈ nodes then 0 else 4) else 11) else 1
theorem chk_zero {nodes : List Int} {L : List Kn} {a : Int} (h : chk nodes L a = 0) : MayV nodes L ∧ TP.Node a ∧ Forest (bnd L) ∧ a ∈ nodes := by
  unfold chk at h
  split at h
  · rename_i h1
    split at h
    · rename_i h2
      split at h
      · rename_i h3; exact ⟨mvB_iff.1 h1.1, h1.2, foB_iff.1 h2, h3⟩
      · omega
    · omega
  · omega
theorem chk_of {nodes : List Int} {L : List Kn} {a : Int} (h1 : MayV nodes L) (h2 : TP.Node a) (h3 : Forest (bnd L)) (h4 : a ∈ nodes) : chk nodes L a = 0 := by
  unfold chk; rw [if_pos ⟨mvB_iff.2 h1, h2⟩, if_pos (foB_iff.2 h3), if_pos h4]
theorem VP.MayV.good {nodes : List Int} {L : List Kn} (h : MayV nodes L) : TP.Good (bnd L) := bnd_good h.1 h.2
theorem VP.MayV.gf {nodes : List Int} {L : List Kn} (h : MayV nodes L) : gfB (bnd L) = foB (bnd L) := by simp [gfB, h.good]
theorem Ab.NewL.ea {s s' : AHeap} {v : Value} {k : Nat} {l : List E} (h : NewL s 3 v k (ecs l) s') (hk : k = l.length) : ∃ A c on, v = .slice A k c ∧ EA s' (.slice A k c) on l := by
  obtain ⟨on, hE⟩ := EA.newL h hk
  obtain ⟨A, c, rfl⟩ := hE.isl
  subst hk
  exact ⟨A, c, on, rfl, hE⟩
theorem Ab.NewL.nm {s s' : AHeap} {es k : Nat} {v : Value} {xs : List Value} (h : NewL s es v k xs s') (kk : IntKind) (x : Int) : nmR (fun i => (s' i).isSome = true) (.tuple #[v, .int kk x]) := by
  intro y hy
  simp only [List.mem_toArray, List.mem_cons, List.not_mem_nil, or_false] at hy
  rcases hy with rfl | rfl
  · rcases h with ⟨_, _, rfl, _⟩ | ⟨u, _, rfl, _, rfl⟩
    · trivial
    · show ((s.set u _) u).isSome = true
      rw [AHeap.set_same]; rfl
  · trivial
theorem Ab.NewL.keep {s s0 s' s1 : AHeap} {es k : Nat} {v : Value} {xs : List Value} (h : NewL s0 es v k xs s') (F0 : Fr s0 s []) (hp : xs.all pl1 = true) (hf : Fr s1 s' []) (kk : IntKind) (x : Int) : ∃ s2, NewL s es v k xs s2 ∧ Keeps s s1 s2 (.tuple #[v, .int kk x]) := by
  rcases h with ⟨h1, h2, rfl, rfl⟩ | ⟨u, hu, rfl, hl, rfl⟩
  · exact ⟨s, .inl ⟨h1, h2, rfl, rfl⟩, Keeps.fr (fun i hi c hc => hf i hi c (F0 i hi c hc)) (plR.nm rfl)⟩
  · have hu0 : s u = none := by
      cases hh : s u with
      | none => rfl
      | some b => rw [F0 u (by simp) b hh] at hu; cases hu
    have hau : At s1 u (.cells true es xs) := At.var (hf u (by simp) _ (AHeap.set_same _ _ _))
    refine ⟨s.set u (.cells true es xs), .inr ⟨u, hu0, rfl, hl, rfl⟩, ?_⟩
    refine Keeps.upd [(u, _)] (fun i hi c hc => ?_) ⟨⟨hau, nm_scal hp⟩, trivial⟩ ?_
    · have hiu : i ≠ u := fun e => by rw [e, hu0] at hc; cases hc
      exact hf i (by simp) c (by rw [AHeap.set_other _ _ hiu]; exact F0 i (by simp) c hc)
    · intro y hy
      simp only [List.mem_toArray, List.mem_cons, List.not_mem_nil, or_false] at hy
      rcases hy with rfl | rfl
      · exact updH_some (.inr (by simp))
      · trivial
attribute [local irreducible] AOps AOpsD AOp AWp put nargs AHeap.set At Free ACall ACallE thenQ blockQ roundQ RetQ RetE Src Gr



/-- A view that is not too great, in memory. -/
structure VAt (s : AHeap) (A B : Option Addr) (n c m d : Nat) (nodes : List Int) (L : List Kn) : Prop where
  nn : n ≤ 100000
  mm : m ≤ 512
  n : ∃ on, NA s (.slice A n c) on nodes
  l : ∃ ol, KA s (.slice B m d) ol L
theorem VAt.fr {s s1 : AHeap} {A B : Option Addr} {n c m d : Nat} {nodes : List Int} {L : List Kn} (h : VAt s A B n c m d nodes L) (F : Fr s1 s []) : VAt s1 A B n c m d nodes L :=
  ⟨h.nn, h.mm, let ⟨on, k⟩ := h.n; ⟨on, k.fr F⟩, let ⟨ol, k⟩ := h.l; ⟨ol, k.fr F⟩⟩
theorem VAt.len {s : AHeap} {A B : Option Addr} {n c m d : Nat} {nodes : List Int} {L : List Kn} (h : VAt s A B n c m d nodes L) : n = nodes.length ∧ m = L.length := by
  obtain ⟨_, hN⟩ := h.n
  obtain ⟨_, hL⟩ := h.l
  obtain ⟨_, _, e⟩ := hN.isl
  obtain ⟨_, _, f⟩ := hL.isl
  injection e with _ e _
  injection f with _ f _
  exact ⟨e, f⟩
theorem boundR_no {s : AHeap} {A B : Option Addr} {n c m d : Nat} {nodes : List Int} {L : List Kn} {a : Int} (h : VAt s A B n c m d nodes L) (hno : chk nodes L a ≠ 0) :
    ACall Try.prog 19 [.agg #[.slice A n c, .slice B m d], .int .i64 a] s (.tuple #[.slice none 0 0, .int .i64 (chk nodes L a)]) s := by
  obtain ⟨on, hN⟩ := h.n
  obtain ⟨ol, hL⟩ := h.l
  have hn := h.nn
  have hm : m ≤ 100000 := by have := h.mm; omega
  refine ACall.make Try.func19 rfl (by kernel_rfl) (by decide) rfl (fun N hN0 => ?_)
  have hT : Top N s := hN0
  have F1 : Fr (s.set N (.cells true 1 [.slice A n c, .slice B m d])) s [] := Fr.new (hT.free (Nat.le_refl _)) (Fr.refl _ _)
  cases hmv : mvB nodes L
  · have hc1 : chk nodes L a = 1 := by unfold chk; rw [if_neg (by rw [hmv]; simp)]
    rw [hc1]
    have c31 := bound_err (hN.fr F1) (hL.fr F1) hn hm hmv

    (repeat' (first | (apply Ab.K.ev; exact ev_) | (apply Ab.K.aops; first | (apply Xg.s; constructor) | (apply Ab.S.guardU; (case hd => rfl); (case hb => (exact ev_; done))) | apply Ab.S.guardG) | (apply Ab.K.aop; first | (apply Ab.O.boxA (l := [.slice A n c, .slice B m d]) N; (case hx => exact ev_); (case hid => exact hT.free (Nat.le_refl _))) | (apply Og.s; constructor)) | (apply Ab.K.gk; first | (apply Xg.s; constructor) | (apply Ab.gY; case hw => assumption) | (apply Ab.gNT; case hw => assumption) | (apply Ab.gNF; case hw => assumption) | ((first | apply Ab.gD | apply Ab.gDN); all_goals (intro _ _; (first | contradiction | (exfalso; omega) | skip)))) | (apply Ab.K.awp; first | (apply Xg.s; constructor)) | (apply Ab.K.at_; exact at_) | (apply Ab.K.acall; first | assumption | exact c31) | (apply Ab.Rg.mk; omega) | (apply Ab.Lt.mk; first | decide | (simp; done) | (simp; omega) | fail) | (apply Ab.Get.mk; first | rfl | rfl) | (apply Ab.Nm.mk; first | exact (show (([.slice A n c, .slice B m d] : List Value).drop 0).take 2 = [.slice A n c, .slice B m d] from rfl) | exact nrm_) | (apply Xg.s; constructor) | (apply Ab.asm; assumption) | rfl | infer_instance | decide))
    all_goals ((first | apply RetQ.ret | apply RetQ.normal); (case he => exact evr_); (case hg => rfl))
    all_goals first | rfl | (apply Keeps.fr; (case h => exact fr_); (case hv => exact plR.nm rfl))
  have hMV := mvB_iff.1 hmv
  have c31 := boundV (hN.fr F1) (hL.fr F1) hn hm hMV
  have bl : (bnd L).length ≤ 512 := by have := bnd_len hMV.2; have := h.mm; have := h.len; omega
  (repeat' (first | (apply Ab.K.ev; exact ev_) | (apply Ab.K.aops; first | (apply Xg.s; constructor) | (apply Ab.S.guardU; (case hd => rfl); (case hb => (exact ev_; done))) | apply Ab.S.guardG) | (apply Ab.K.aop; first | (first | (apply Ab.O.boxA (l := [.slice A n c, .slice B m d]) N; (case hx => exact ev_); (case hid => exact hT.free (Nat.le_refl _))) | (apply Ab.O.callFE; (case ha => exact evs_); (case hc => exact c31))) | (apply Og.s; constructor)) | (apply Ab.K.gk; first | (apply Xg.s; constructor) | (apply Ab.gY; case hw => assumption) | (apply Ab.gNT; case hw => assumption) | (apply Ab.gNF; case hw => assumption) | ((first | apply Ab.gD | apply Ab.gDN); all_goals (intro _ _; (first | contradiction | (exfalso; omega) | skip)))) | (apply Ab.K.awp; first | (apply Xg.s; constructor)) | (apply Ab.K.at_; exact at_) | (apply Ab.K.acall; first | assumption | exact c31) | (apply Ab.Rg.mk; omega) | (apply Ab.Lt.mk; first | decide | (simp; done) | (simp; omega) | fail) | (apply Ab.Get.mk; first | rfl | rfl) | (apply Ab.Nm.mk; first | exact (show (([.slice A n c, .slice B m d] : List Value).drop 0).take 2 = [.slice A n c, .slice B m d] from rfl) | exact nrm_) | (apply Xg.s; constructor) | (apply Ab.asm; assumption) | rfl | infer_instance | decide))
  rintro v2 s2 ⟨w, rfl, hw⟩
  clear c31
  have F2 : Fr s2 s [] := fun i hi c hc => hw.fr i hi c (F1 i hi c hc)
  have a2 : At s2 N (.cells true 1 [.slice A n c, .slice B m d]) := At.var (hw.fr N (by simp) _ (AHeap.set_same _ _ _))
  obtain ⟨C, cc, oe, rfl, hE⟩ := hw.ea rfl
  have c29 : ACall Try.prog 20 [.int .i64 a] s2 (.bool (decide (TP.Node a))) s2 := node29
  have c28 := forest28 hE bl
  rw [hMV.gf] at c28
  have c33 := containsI (x := a) (hN.fr F2) (by omega)
  by_cases ha : TP.Node a
  · rw [decide_eq_true ha] at c29
    cases hfo : foB (bnd L)
    · have hc1 : chk nodes L a = 11 := by unfold chk; rw [if_pos ⟨hmv, ha⟩, if_neg (by rw [hfo]; simp)]
      rw [hc1]
      rw [hfo] at c28
      (repeat' (first | (apply Ab.K.ev; exact ev_) | (apply Ab.K.aops; first | (apply Xg.s; constructor) | (apply Ab.S.guardU; (case hd => rfl); (case hb => (exact ev_; done))) | apply Ab.S.guardG) | (apply Ab.K.aop; first | (apply Og.s; constructor)) | (apply Ab.K.gk; first | (apply Xg.s; constructor) | (apply Ab.gY; case hw => assumption) | (apply Ab.gNT; case hw => assumption) | (apply Ab.gNF; case hw => assumption) | ((first | apply Ab.gD | apply Ab.gDN); all_goals (intro _ _; (first | contradiction | (exfalso; omega) | skip)))) | (apply Ab.K.awp; first | (apply Xg.s; constructor)) | (apply Ab.K.at_; exact at_) | (apply Ab.K.acall; first | assumption | first | exact c28 | exact c29 | exact c33) | (apply Ab.Rg.mk; omega) | (apply Ab.Lt.mk; first | decide | (simp; done) | (simp; omega) | fail) | (apply Ab.Get.mk; first | rfl | rfl) | (apply Ab.Nm.mk; first | exact (show (([.slice A n c, .slice B m d] : List Value).drop 0).take 2 = [.slice A n c, .slice B m d] from rfl) | exact nrm_) | (apply Xg.s; constructor) | (apply Ab.asm; assumption) | rfl | infer_instance | decide))
      all_goals ((first | apply RetQ.ret | apply RetQ.normal); (case he => exact evr_); (case hg => rfl))
      all_goals first | rfl | exact Keeps.fr F2 (plR.nm rfl)
    · rw [hfo] at c28
      by_cases hin : a ∈ nodes
      · exact absurd (chk_of hMV ha (foB_iff.1 hfo) hin) hno
      · have hc1 : chk nodes L a = 4 := by unfold chk; rw [if_pos ⟨hmv, ha⟩, if_pos hfo, if_neg hin]
        rw [hc1]
        rw [decide_eq_false hin] at c33
        (repeat' (first | (apply Ab.K.ev; exact ev_) | (apply Ab.K.aops; first | (apply Xg.s; constructor) | (apply Ab.S.guardU; (case hd => rfl); (case hb => (exact ev_; done))) | apply Ab.S.guardG) | (apply Ab.K.aop; first | (apply Og.s; constructor)) | (apply Ab.K.gk; first | (apply Xg.s; constructor) | (apply Ab.gY; case hw => assumption) | (apply Ab.gNT; case hw => assumption) | (apply Ab.gNF; case hw => assumption) | ((first | apply Ab.gD | apply Ab.gDN); all_goals (intro _ _; (first | contradiction | (exfalso; omega) | skip)))) | (apply Ab.K.awp; first | (apply Xg.s; constructor)) | (apply Ab.K.at_; exact at_) | (apply Ab.K.acall; first | assumption | first | exact c28 | exact c29 | exact c33) | (apply Ab.Rg.mk; omega) | (apply Ab.Lt.mk; first | decide | (simp; done) | (simp; omega) | fail) | (apply Ab.Get.mk; first | rfl | rfl) | (apply Ab.Nm.mk; first | exact (show (([.slice A n c, .slice B m d] : List Value).drop 0).take 2 = [.slice A n c, .slice B m d] from rfl) | exact nrm_) | (apply Xg.s; constructor) | (apply Ab.asm; assumption) | rfl | infer_instance | decide))
        all_goals ((first | apply RetQ.ret | apply RetQ.normal); (case he => exact evr_); (case hg => rfl))
        all_goals first | rfl | exact Keeps.fr F2 (plR.nm rfl)
  · have hc1 : chk nodes L a = 1 := by unfold chk; rw [if_neg (fun h => ha h.2)]
    rw [hc1]
    rw [decide_eq_false ha] at c29
    (repeat' (first | (apply Ab.K.ev; exact ev_) | (apply Ab.K.aops; first | (apply Xg.s; constructor) | (apply Ab.S.guardU; (case hd => rfl); (case hb => (exact ev_; done))) | apply Ab.S.guardG) | (apply Ab.K.aop; first | (apply Og.s; constructor)) | (apply Ab.K.gk; first | (apply Xg.s; constructor) | (apply Ab.gY; case hw => assumption) | (apply Ab.gNT; case hw => assumption) | (apply Ab.gNF; case hw => assumption) | ((first | apply Ab.gD | apply Ab.gDN); all_goals (intro _ _; (first | contradiction | (exfalso; omega) | skip)))) | (apply Ab.K.awp; first | (apply Xg.s; constructor)) | (apply Ab.K.at_; exact at_) | (apply Ab.K.acall; first | assumption | first | exact c28 | exact c29 | exact c33) | (apply Ab.Rg.mk; omega) | (apply Ab.Lt.mk; first | decide | (simp; done) | (simp; omega) | fail) | (apply Ab.Get.mk; first | rfl | rfl) | (apply Ab.Nm.mk; first | exact (show (([.slice A n c, .slice B m d] : List Value).drop 0).take 2 = [.slice A n c, .slice B m d] from rfl) | exact nrm_) | (apply Xg.s; constructor) | (apply Ab.asm; assumption) | rfl | infer_instance | decide))
    all_goals ((first | apply RetQ.ret | apply RetQ.normal); (case he => exact evr_); (case hg => rfl))
    all_goals first | rfl | exact Keeps.fr F2 (plR.nm rfl)
theorem boundR_yes {s : AHeap} {A B : Option Addr} {n c m d : Nat} {nodes : List Int} {L : List Kn} {a : Int} (h : VAt s A B n c m d nodes L) (hyes : chk nodes L a = 0) :
    ACallE Try.prog 19 [.agg #[.slice A n c, .slice B m d], .int .i64 a] s (fun v s' => ∃ w, v = .tuple #[w, .int .i64 0] ∧ NewL s 3 w (bnd L).length (ecs (bnd L)) s') := by
  obtain ⟨on, hN⟩ := h.n
  obtain ⟨ol, hL⟩ := h.l
  have hn := h.nn
  have hm : m ≤ 100000 := by have := h.mm; omega
  obtain ⟨hMV, ha, hfo, hin⟩ := chk_zero hyes
  refine ACallE.make Try.func19 rfl (by kernel_rfl) (by decide) rfl (fun N hN0 => ?_)
  have hT : Top N s := hN0
  have F1 : Fr (s.set N (.cells true 1 [.slice A n c, .slice B m d])) s [] := Fr.new (hT.free (Nat.le_refl _)) (Fr.refl _ _)
  have c31 := boundV (hN.fr F1) (hL.fr F1) hn hm hMV
  have bl : (bnd L).length ≤ 512 := by have := bnd_len hMV.2; have := h.mm; have := h.len; omega
  (repeat' (first | (apply Ab.K.ev; exact ev_) | (apply Ab.K.aops; first | (apply Xg.s; constructor) | (apply Ab.S.guardU; (case hd => rfl); (case hb => (exact ev_; done))) | apply Ab.S.guardG) | (apply Ab.K.aop; first | (first | (apply Ab.O.boxA (l := [.slice A n c, .slice B m d]) N; (case hx => exact ev_); (case hid => exact hT.free (Nat.le_refl _))) | (apply Ab.O.callFE; (case ha => exact evs_); (case hc => exact c31))) | (apply Og.s; constructor)) | (apply Ab.K.gk; first | (apply Xg.s; constructor) | (apply Ab.gY; case hw => assumption) | (apply Ab.gNT; case hw => assumption) | (apply Ab.gNF; case hw => assumption) | ((first | apply Ab.gD | apply Ab.gDN); all_goals (intro _ _; (first | contradiction | (exfalso; omega) | skip)))) | (apply Ab.K.awp; first | (apply Xg.s; constructor)) | (apply Ab.K.at_; exact at_) | (apply Ab.K.acall; first | assumption | first | exact c28 | exact c29 | exact c33) | (apply Ab.Rg.mk; omega) | (apply Ab.Lt.mk; first | decide | (simp; done) | (simp; omega) | fail) | (apply Ab.Get.mk; first | rfl | rfl) | (apply Ab.Nm.mk; first | exact (show (([.slice A n c, .slice B m d] : List Value).drop 0).take 2 = [.slice A n c, .slice B m d] from rfl) | exact nrm_) | (apply Xg.s; constructor) | (apply Ab.asm; assumption) | rfl | infer_instance | decide))
  rintro v2 s2 ⟨w, rfl, hw⟩
  clear c31
  have F2 : Fr s2 s [] := fun i hi c hc => hw.fr i hi c (F1 i hi c hc)
  have a2 : At s2 N (.cells true 1 [.slice A n c, .slice B m d]) := At.var (hw.fr N (by simp) _ (AHeap.set_same _ _ _))
  obtain ⟨C, cc, oe, hwv, hE⟩ := hw.ea rfl
  obtain ⟨s3, hs3, hk3⟩ := hw.keep F1 (ecs_pl _) (Fr.refl s2 []) .i64 0
  subst hwv
  have c29 : ACall Try.prog 20 [.int .i64 a] s2 (.bool (decide (TP.Node a))) s2 := node29
  have c28 := forest28 hE bl
  rw [hMV.gf, foB_iff.2 hfo] at c28
  have c33 := containsI (x := a) (hN.fr F2) (by omega)
  rw [decide_eq_true ha] at c29
  rw [decide_eq_true hin] at c33
  (repeat' (first | (apply Ab.K.ev; exact ev_) | (apply Ab.K.aops; first | (apply Xg.s; constructor) | (apply Ab.S.guardU; (case hd => rfl); (case hb => (exact ev_; done))) | apply Ab.S.guardG) | (apply Ab.K.aop; first | (apply Og.s; constructor)) | (apply Ab.K.gk; first | (apply Xg.s; constructor) | (apply Ab.gY; case hw => assumption) | (apply Ab.gNT; case hw => assumption) | (apply Ab.gNF; case hw => assumption) | ((first | apply Ab.gD | apply Ab.gDN); all_goals (intro _ _; (first | contradiction | (exfalso; omega) | skip)))) | (apply Ab.K.awp; first | (apply Xg.s; constructor)) | (apply Ab.K.at_; exact at_) | (apply Ab.K.acall; first | assumption | first | exact c28 | exact c29 | exact c33) | (apply Ab.Rg.mk; omega) | (apply Ab.Lt.mk; first | decide | (simp; done) | (simp; omega) | fail) | (apply Ab.Get.mk; first | rfl | rfl) | (apply Ab.Nm.mk; first | exact (show (([.slice A n c, .slice B m d] : List Value).drop 0).take 2 = [.slice A n c, .slice B m d] from rfl) | exact nrm_) | (apply Xg.s; constructor) | (apply Ab.asm; assumption) | rfl | infer_instance | decide))
  all_goals ((first | apply RetE.ret | apply RetE.normal); (case he => exact evr_); (case hg => rfl))
  · exact ⟨_, rfl, hs3⟩
  · exact hk3
end Go.Proofs.Ytdbnpghckgmaoaa

/- routes: the next hop and the leader, by the program. -/
namespace Go.Proofs.Ytdbnpghckgmaoaa
set_option linter.unusedVariables false
set_option linter.unusedSimpArgs false
set_option linter.unusedSectionVars false
open Go.RowKit Ab TP VP
/-- The next node of a way. -/
noncomputable def nxt (l : List E) (a b : Int) : Int := open Classical in if h : ∃ p, TP.Way l a b p then ((h.choose ++ [b])[1]?).getD 0 else 0
theorem nxt_eq {l : List E} (hc : Cut l) {a b : Int} {p : List Int} (hw : TP.Way l a b p) : (p ++ [b])[1]? = some (nxt l a b) := by
  have h : ∃ p, TP.Way l a b p := ⟨p, hw⟩
  unfold nxt
  rw [dif_pos h, hw.uniq hc h.choose_spec]
  have hp : 1 ≤ p.length := by obtain ⟨t, ht⟩ := hw.head; rw [ht]; simp
  rw [List.getElem?_eq_getElem (show 1 < (p ++ [b]).length by simp; omega)]
  rfl
noncomputable def hopE (nodes : List Int) (L : List Kn) (a b : Int) : Int := if TP.Node b then (if chk nodes L a = 0 then (if lkB (bnd L) a b = true then 0 else 9) else chk nodes L a) else 1
noncomputable def hopV (nodes : List Int) (L : List Kn) (a b : Int) : Int := if hopE nodes L a b = 0 then nxt (bnd L) a b else 0
theorem hop_bad {nodes : List Int} {L : List Kn} {a b : Int} (h : hopE nodes L a b ≠ 0) : hopV nodes L a b = 0 := if_neg h
theorem hop_ok {nodes : List Int} {L : List Kn} {a b : Int} : hopE nodes L a b = 0 ↔ TP.Node b ∧ chk nodes L a = 0 ∧ lkB (bnd L) a b = true := by
  unfold hopE
  constructor
  · intro h
    split at h
    · rename_i h1
      split at h
      · rename_i h2
        split at h
        · rename_i h3; exact ⟨h1, h2, h3⟩
        · omega
      · rename_i h2; exact absurd h h2
    · omega
  · rintro ⟨h1, h2, h3⟩; rw [if_pos h1, if_pos h2, if_pos h3]
theorem VP.MayV.cut {nodes : List Int} {L : List Kn} (h : MayV nodes L) (hf : Forest (bnd L)) : Cut (bnd L) := hf.cut h.good.2.nodup
noncomputable def ldr (nodes : List Int) (L : List Kn) (a : Int) : Int := if chk nodes L a = 0 then (side (bnd L) a).headD 0 else 0
theorem hopE_node {nodes : List Int} {L : List Kn} {a b : Int} (hb : ¬ TP.Node b) : hopE nodes L a b = 1 := if_neg hb
theorem hopV_ok {nodes : List Int} {L : List Kn} {a b : Int} (h : hopE nodes L a b = 0) : hopV nodes L a b = nxt (bnd L) a b := if_pos h
theorem ldr_no {nodes : List Int} {L : List Kn} {a : Int} (h : ¬ chk nodes L a = 0) : ldr nodes L a = 0 := if_neg h
theorem ldr_ok {nodes : List Int} {L : List Kn} {a : Int} (h : chk nodes L a = 0) : ldr nodes L a = (side (bnd L) a).headD 0 := if_pos h
theorem side_head {l : List E} {a : Int} (hg : TP.Good l) (ha : TP.Node a) : (side l a)[0]? = some ((side l a).headD 0) := by
  have hm := (side_mem (Good.node hg) ha (x := a)).2 (.refl a)
  match side l a, hm with
  | x :: t, _ => rfl
attribute [local irreducible] AOps AOpsD AOp AWp put nargs AHeap.set At Free ACall ACallE thenQ blockQ roundQ RetQ RetE Src Gr side lkN chk hopE hopV ldr nxt VP.bnd inn mvB reachB lkB foB



set_option maxHeartbeats 4000000 in
theorem hopR {s : AHeap} {A B : Option Addr} {n c m d : Nat} {nodes : List Int} {L : List Kn} {a b : Int} (h : VAt s A B n c m d nodes L) :
    ACall Try.prog 10 [.agg #[.slice A n c, .slice B m d], .int .i64 a, .int .i64 b] s (.tuple #[.int .i64 (hopV nodes L a b), .int .i64 (hopE nodes L a b)]) s := by
  refine ACall.make Try.func10 rfl (by kernel_rfl) (by decide) rfl (fun N hN0 => ?_)
  have hT : Top N s := hN0
  have F1 : Fr (s.set N (.cells true 1 [.slice A n c, .slice B m d])) s [] := Fr.new (hT.free (Nat.le_refl _)) (Fr.refl _ _)
  have c29 : ∀ s : AHeap, ACall Try.prog 20 [.int .i64 b] s (.bool (decide (TP.Node b))) s := fun s => node29
  by_cases hb : TP.Node b
  case neg =>
    have hE : hopE nodes L a b = 1 := hopE_node hb
    have hV : hopV nodes L a b = 0 := hop_bad (by rw [hE]; decide)
    rw [hE, hV]
    rw [decide_eq_false hb] at c29
    by_cases hck : chk nodes L a = 0
    · have c19 := boundR_yes (h.fr F1) hck
      (repeat' (first | (apply Ab.K.ev; exact ev_) | (apply Ab.K.aops; first | (apply Xg.s; constructor) | (apply Ab.S.guardU; (case hd => rfl); (case hb => (exact ev_; done))) | apply Ab.S.guardG) | (apply Ab.K.aop; first | (first | (apply Ab.O.boxA (l := [.slice A n c, .slice B m d]) N; (case hx => exact ev_); (case hid => exact hT.free (Nat.le_refl _))) | (apply Ab.O.callFE; (case ha => exact evs_); (case hc => exact c19))) | (apply Og.s; constructor)) | (apply Ab.K.gk; first | (apply Xg.s; constructor) | (apply Ab.gY; case hw => assumption) | (apply Ab.gNT; case hw => assumption) | (apply Ab.gNF; case hw => assumption) | ((first | apply Ab.gD | apply Ab.gDN); all_goals (intro _ _; (first | contradiction | (exfalso; omega) | skip)))) | (apply Ab.K.awp; first | (apply Xg.s; constructor)) | (apply Ab.K.at_; exact at_) | (apply Ab.K.acall; first | assumption | fail) | (apply Ab.Rg.mk; omega) | (apply Ab.Lt.mk; first | decide | (simp; done) | (simp; omega) | fail) | (apply Ab.Get.mk; first | rfl | rfl) | (apply Ab.Nm.mk; first | exact (show (([.slice A n c, .slice B m d] : List Value).drop 0).take 2 = [.slice A n c, .slice B m d] from rfl) | exact nrm_) | (apply Xg.s; constructor) | (apply Ab.asm; assumption) | rfl | infer_instance | decide))
      rintro v2 s2 ⟨w, rfl, hw⟩
      clear c19
      have F2 : Fr s2 s [] := fun i hi c hc => hw.fr i hi c (F1 i hi c hc)
      (repeat' (first | (apply Ab.K.ev; exact ev_) | (apply Ab.K.aops; first | (apply Xg.s; constructor) | (apply Ab.S.guardU; (case hd => rfl); (case hb => (exact ev_; done))) | apply Ab.S.guardG) | (apply Ab.K.aop; first | (apply Og.s; constructor)) | (apply Ab.K.gk; first | (apply Xg.s; constructor) | (apply Ab.gY; case hw => assumption) | (apply Ab.gNT; case hw => assumption) | (apply Ab.gNF; case hw => assumption) | ((first | apply Ab.gD | apply Ab.gDN); all_goals (intro _ _; (first | contradiction | (exfalso; omega) | skip)))) | (apply Ab.K.awp; first | (apply Xg.s; constructor)) | (apply Ab.K.at_; exact at_) | (apply Ab.K.acall; first | assumption | exact c29 _) | (apply Ab.Rg.mk; omega) | (apply Ab.Lt.mk; first | decide | (simp; done) | (simp; omega) | fail) | (apply Ab.Get.mk; first | rfl | rfl) | (apply Ab.Nm.mk; first | exact (show (([.slice A n c, .slice B m d] : List Value).drop 0).take 2 = [.slice A n c, .slice B m d] from rfl) | exact nrm_) | (apply Xg.s; constructor) | (apply Ab.asm; assumption) | rfl | infer_instance | decide))
      all_goals ((first | apply RetQ.ret | apply RetQ.normal); (case he => exact evr_); (case hg => rfl))
      all_goals first | rfl | exact Keeps.fr F2 (plR.nm rfl)
    · have c19 := boundR_no (h.fr F1) hck

      (repeat' (first | (apply Ab.K.ev; exact ev_) | (apply Ab.K.aops; first | (apply Xg.s; constructor) | (apply Ab.S.guardU; (case hd => rfl); (case hb => (exact ev_; done))) | apply Ab.S.guardG) | (apply Ab.K.aop; first | (apply Ab.O.boxA (l := [.slice A n c, .slice B m d]) N; (case hx => exact ev_); (case hid => exact hT.free (Nat.le_refl _))) | (apply Og.s; constructor)) | (apply Ab.K.gk; first | (apply Xg.s; constructor) | (apply Ab.gY; case hw => assumption) | (apply Ab.gNT; case hw => assumption) | (apply Ab.gNF; case hw => assumption) | ((first | apply Ab.gD | apply Ab.gDN); all_goals (intro _ _; (first | contradiction | (exfalso; omega) | skip)))) | (apply Ab.K.awp; first | (apply Xg.s; constructor)) | (apply Ab.K.at_; exact at_) | (apply Ab.K.acall; first | assumption | first | exact c19 | exact c29 _) | (apply Ab.Rg.mk; omega) | (apply Ab.Lt.mk; first | decide | (simp; done) | (simp; omega) | fail) | (apply Ab.Get.mk; first | rfl | rfl) | (apply Ab.Nm.mk; first | exact (show (([.slice A n c, .slice B m d] : List Value).drop 0).take 2 = [.slice A n c, .slice B m d] from rfl) | exact nrm_) | (apply Xg.s; constructor) | (apply Ab.asm; assumption) | rfl | infer_instance | decide))
      all_goals ((first | apply RetQ.ret | apply RetQ.normal); (case he => exact evr_); (case hg => rfl))
      all_goals first | rfl | (apply Keeps.fr; (case h => exact fr_); (case hv => exact plR.nm rfl))
  rw [decide_eq_true hb] at c29
  by_cases hck : chk nodes L a = 0
  case neg =>
    have hE : hopE nodes L a b = chk nodes L a := by unfold hopE; rw [if_pos hb, if_neg hck]
    have hV : hopV nodes L a b = 0 := hop_bad (by rw [hE]; exact hck)
    rw [hE, hV]
    have c19 := boundR_no (h.fr F1) hck
    (repeat' (first | (apply Ab.K.ev; exact ev_) | (apply Ab.K.aops; first | (apply Xg.s; constructor) | (apply Ab.S.guardU; (case hd => rfl); (case hb => (exact ev_; done))) | apply Ab.S.guardG) | (apply Ab.K.aop; first | (apply Ab.O.boxA (l := [.slice A n c, .slice B m d]) N; (case hx => exact ev_); (case hid => exact hT.free (Nat.le_refl _))) | (apply Og.s; constructor)) | (apply Ab.K.gk; first | (apply Xg.s; constructor) | (apply Ab.gY; case hw => assumption) | (apply Ab.gNT; case hw => assumption) | (apply Ab.gNF; case hw => assumption) | ((first | apply Ab.gD | apply Ab.gDN); all_goals (intro _ _; (first | contradiction | (exfalso; omega) | skip)))) | (apply Ab.K.awp; first | (apply Xg.s; constructor)) | (apply Ab.K.at_; exact at_) | (apply Ab.K.acall; first | assumption | first | exact c19 | exact c29 _) | (apply Ab.Rg.mk; omega) | (apply Ab.Lt.mk; first | decide | (simp; done) | (simp; omega) | fail) | (apply Ab.Get.mk; first | rfl | rfl) | (apply Ab.Nm.mk; first | exact (show (([.slice A n c, .slice B m d] : List Value).drop 0).take 2 = [.slice A n c, .slice B m d] from rfl) | exact nrm_) | (apply Xg.s; constructor) | (apply Ab.asm; assumption) | rfl | infer_instance | decide))
    all_goals ((first | apply RetQ.ret | apply RetQ.normal); (case he => exact evr_); (case hg => rfl))
    all_goals first | rfl | (apply Keeps.fr; (case h => exact fr_); (case hv => exact plR.nm rfl))
  obtain ⟨hMV, ha, hfo, hin⟩ := chk_zero hck
  have bl : (bnd L).length ≤ 512 := by have := bnd_len hMV.2; have := h.mm; have := h.len; omega
  have c19 := boundR_yes (h.fr F1) hck

  (repeat' (first | (apply Ab.K.ev; exact ev_) | (apply Ab.K.aops; first | (apply Xg.s; constructor) | (apply Ab.S.guardU; (case hd => rfl); (case hb => (exact ev_; done))) | apply Ab.S.guardG) | (apply Ab.K.aop; first | (first | (apply Ab.O.boxA (l := [.slice A n c, .slice B m d]) N; (case hx => exact ev_); (case hid => exact hT.free (Nat.le_refl _))) | (apply Ab.O.callFE; (case ha => exact evs_); (case hc => exact c19))) | (apply Og.s; constructor)) | (apply Ab.K.gk; first | (apply Xg.s; constructor) | (apply Ab.gY; case hw => assumption) | (apply Ab.gNT; case hw => assumption) | (apply Ab.gNF; case hw => assumption) | ((first | apply Ab.gD | apply Ab.gDN); all_goals (intro _ _; (first | contradiction | (exfalso; omega) | skip)))) | (apply Ab.K.awp; first | (apply Xg.s; constructor)) | (apply Ab.K.at_; exact at_) | (apply Ab.K.acall; first | assumption | exact c29 _) | (apply Ab.Rg.mk; omega) | (apply Ab.Lt.mk; first | decide | (simp; done) | (simp; omega) | fail) | (apply Ab.Get.mk; first | rfl | rfl) | (apply Ab.Nm.mk; first | exact (show (([.slice A n c, .slice B m d] : List Value).drop 0).take 2 = [.slice A n c, .slice B m d] from rfl) | exact nrm_) | (apply Xg.s; constructor) | (apply Ab.asm; assumption) | rfl | infer_instance | decide))
  rintro v2 s2 ⟨w, rfl, hw⟩
  clear c19
  have F2 : Fr s2 s [] := fun i hi c hc => hw.fr i hi c (F1 i hi c hc)
  obtain ⟨C, cc, oe, rfl, hE⟩ := hw.ea rfl
  have hok : wOk (bnd L) a b = true := wOk_iff.2 ⟨hMV.good, hfo, ha, hb⟩
  cases hlk : lkB (bnd L) a b
  · have hnc : ¬ Conn (bnd L) a b := fun hcn => by rw [lkB_iff.2 ⟨ha, hb, hcn⟩] at hlk; cases hlk
    have hE2 : hopE nodes L a b = 9 := by unfold hopE; rw [if_pos hb, if_pos hck, if_neg (by rw [hlk]; simp)]
    have hV : hopV nodes L a b = 0 := hop_bad (by rw [hE2]; decide)
    rw [hE2, hV]
    have c21 := next12_err (by decide) (way11_none hE bl hok hnc)
    (repeat' (first | (apply Ab.K.ev; exact ev_) | (apply Ab.K.aops; first | (apply Xg.s; constructor) | (apply Ab.S.guardU; (case hd => rfl); (case hb => (exact ev_; done))) | apply Ab.S.guardG) | (apply Ab.K.aop; first | (apply Og.s; constructor)) | (apply Ab.K.gk; first | (apply Xg.s; constructor) | (apply Ab.gY; case hw => assumption) | (apply Ab.gNT; case hw => assumption) | (apply Ab.gNF; case hw => assumption) | ((first | apply Ab.gD | apply Ab.gDN); all_goals (intro _ _; (first | contradiction | (exfalso; omega) | skip)))) | (apply Ab.K.awp; first | (apply Xg.s; constructor)) | (apply Ab.K.at_; exact at_) | (apply Ab.K.acall; first | assumption | first | exact c29 _ | exact c21) | (apply Ab.Rg.mk; omega) | (apply Ab.Lt.mk; first | decide | (simp; done) | (simp; omega) | fail) | (apply Ab.Get.mk; first | rfl | rfl) | (apply Ab.Nm.mk; first | exact (show (([.slice A n c, .slice B m d] : List Value).drop 0).take 2 = [.slice A n c, .slice B m d] from rfl) | exact nrm_) | (apply Xg.s; constructor) | (apply Ab.asm; assumption) | rfl | infer_instance | decide))
    all_goals ((first | apply RetQ.ret | apply RetQ.normal); (case he => exact evr_); (case hg => rfl))
    all_goals first | rfl | exact Keeps.fr F2 (plR.nm rfl)
  · obtain ⟨p, hp⟩ := Way.ex (lkB_iff.1 hlk).2.2
    have hE2 : hopE nodes L a b = 0 := hop_ok.2 ⟨hb, hck, hlk⟩
    have hV : hopV nodes L a b = nxt (bnd L) a b := hopV_ok hE2
    rw [hE2, hV]
    have c21 := next12_yes (hp.short (Good.node hMV.good) ha) (by obtain ⟨t, ht⟩ := hp.head; rw [ht]; simp) (nxt_eq (hMV.cut hfo) hp) (fun o ho => way11_yes hE bl hok hp ho)
    (repeat' (first | (apply Ab.K.ev; exact ev_) | (apply Ab.K.aops; first | (apply Xg.s; constructor) | (apply Ab.S.guardU; (case hd => rfl); (case hb => (exact ev_; done))) | apply Ab.S.guardG) | (apply Ab.K.aop; first | (apply Og.s; constructor)) | (apply Ab.K.gk; first | (apply Xg.s; constructor) | (apply Ab.gY; case hw => assumption) | (apply Ab.gNT; case hw => assumption) | (apply Ab.gNF; case hw => assumption) | ((first | apply Ab.gD | apply Ab.gDN); all_goals (intro _ _; (first | contradiction | (exfalso; omega) | skip)))) | (apply Ab.K.awp; first | (apply Xg.s; constructor)) | (apply Ab.K.at_; exact at_) | (apply Ab.K.acall; first | assumption | first | exact c29 _ | exact c21) | (apply Ab.Rg.mk; omega) | (apply Ab.Lt.mk; first | decide | (simp; done) | (simp; omega) | fail) | (apply Ab.Get.mk; first | rfl | rfl) | (apply Ab.Nm.mk; first | exact (show (([.slice A n c, .slice B m d] : List Value).drop 0).take 2 = [.slice A n c, .slice B m d] from rfl) | exact nrm_) | (apply Xg.s; constructor) | (apply Ab.asm; assumption) | rfl | infer_instance | decide))
    all_goals ((first | apply RetQ.ret | apply RetQ.normal); (case he => exact evr_); (case hg => rfl))
    all_goals first | rfl | exact Keeps.fr F2 (plR.nm rfl)
set_option maxHeartbeats 4000000 in
theorem leaderR {s : AHeap} {A B : Option Addr} {n c m d : Nat} {nodes : List Int} {L : List Kn} {a : Int} (h : VAt s A B n c m d nodes L) :
    ACall Try.prog 12 [.agg #[.slice A n c, .slice B m d], .int .i64 a] s (.tuple #[.int .i64 (ldr nodes L a), .int .i64 (chk nodes L a)]) s := by
  refine ACall.make Try.func12 rfl (by kernel_rfl) (by decide) rfl (fun N hN0 => ?_)
  have hT : Top N s := hN0
  have F1 : Fr (s.set N (.cells true 1 [.slice A n c, .slice B m d])) s [] := Fr.new (hT.free (Nat.le_refl _)) (Fr.refl _ _)
  by_cases hck : chk nodes L a = 0
  case neg =>
    have hl : ldr nodes L a = 0 := ldr_no hck
    rw [hl]
    have c19 := boundR_no (h.fr F1) hck

    (repeat' (first | (apply Ab.K.ev; exact ev_) | (apply Ab.K.aops; first | (apply Xg.s; constructor) | (apply Ab.S.guardU; (case hd => rfl); (case hb => (exact ev_; done))) | apply Ab.S.guardG) | (apply Ab.K.aop; first | (apply Ab.O.boxA (l := [.slice A n c, .slice B m d]) N; (case hx => exact ev_); (case hid => exact hT.free (Nat.le_refl _))) | (apply Og.s; constructor)) | (apply Ab.K.gk; first | (apply Xg.s; constructor) | (apply Ab.gY; case hw => assumption) | (apply Ab.gNT; case hw => assumption) | (apply Ab.gNF; case hw => assumption) | ((first | apply Ab.gD | apply Ab.gDN); all_goals (intro _ _; (first | contradiction | (exfalso; omega) | skip)))) | (apply Ab.K.awp; first | (apply Xg.s; constructor)) | (apply Ab.K.at_; exact at_) | (apply Ab.K.acall; first | assumption | exact c19) | (apply Ab.Rg.mk; omega) | (apply Ab.Lt.mk; first | decide | (simp; done) | (simp; omega) | fail) | (apply Ab.Get.mk; first | rfl | rfl) | (apply Ab.Nm.mk; first | exact (show (([.slice A n c, .slice B m d] : List Value).drop 0).take 2 = [.slice A n c, .slice B m d] from rfl) | exact nrm_) | (apply Xg.s; constructor) | (apply Ab.asm; assumption) | rfl | infer_instance | decide))
    all_goals ((first | apply RetQ.ret | apply RetQ.normal); (case he => exact evr_); (case hg => rfl))
    all_goals first | rfl | (apply Keeps.fr; (case h => exact fr_); (case hv => exact plR.nm rfl))
  obtain ⟨hMV, ha, hfo, hin⟩ := chk_zero hck
  have bl : (bnd L).length ≤ 512 := by have := bnd_len hMV.2; have := h.mm; have := h.len; omega
  have hl : ldr nodes L a = (side (bnd L) a).headD 0 := ldr_ok hck
  rw [hl, hck]
  have c19 := boundR_yes (h.fr F1) hck

  (repeat' (first | (apply Ab.K.ev; exact ev_) | (apply Ab.K.aops; first | (apply Xg.s; constructor) | (apply Ab.S.guardU; (case hd => rfl); (case hb => (exact ev_; done))) | apply Ab.S.guardG) | (apply Ab.K.aop; first | (first | (apply Ab.O.boxA (l := [.slice A n c, .slice B m d]) N; (case hx => exact ev_); (case hid => exact hT.free (Nat.le_refl _))) | (apply Ab.O.callFE; (case ha => exact evs_); (case hc => exact c19))) | (apply Og.s; constructor)) | (apply Ab.K.gk; first | (apply Xg.s; constructor) | (apply Ab.gY; case hw => assumption) | (apply Ab.gNT; case hw => assumption) | (apply Ab.gNF; case hw => assumption) | ((first | apply Ab.gD | apply Ab.gDN); all_goals (intro _ _; (first | contradiction | (exfalso; omega) | skip)))) | (apply Ab.K.awp; first | (apply Xg.s; constructor)) | (apply Ab.K.at_; exact at_) | (apply Ab.K.acall; first | assumption | fail) | (apply Ab.Rg.mk; omega) | (apply Ab.Lt.mk; first | decide | (simp; done) | (simp; omega) | fail) | (apply Ab.Get.mk; first | rfl | rfl) | (apply Ab.Nm.mk; first | exact (show (([.slice A n c, .slice B m d] : List Value).drop 0).take 2 = [.slice A n c, .slice B m d] from rfl) | exact nrm_) | (apply Xg.s; constructor) | (apply Ab.asm; assumption) | rfl | infer_instance | decide))
  rintro v2 s2 ⟨w, rfl, hw⟩
  clear c19
  have F2 : Fr s2 s [] := fun i hi c hc => hw.fr i hi c (F1 i hi c hc)
  obtain ⟨M, hM, T2⟩ := hw.top (hT.new (b := .cells true 1 [.slice A n c, .slice B m d]))
  obtain ⟨C, cc, oe, rfl, hE⟩ := hw.ea rfl
  have hok : wOk (bnd L) a a = true := wOk_iff.2 ⟨hMV.good, hfo, ha, ha⟩
  have c24 := below16_self (o := M) hE bl hok (T2.none (Nat.le_refl _))
  have hh := side_head hMV.good ha
  have gh := ints_get hh
  have hpos : 0 < (side (bnd L) a).length := (List.getElem?_eq_some_iff.1 hh).1

  (repeat' (first | (apply Ab.K.ev; exact ev_) | (apply Ab.K.aops; first | (apply Xg.s; constructor) | (apply Ab.S.guardU; (case hd => rfl); (case hb => (exact ev_; done))) | apply Ab.S.guardG) | (apply Ab.K.aop; first | (apply Og.s; constructor)) | (apply Ab.K.gk; first | (apply Xg.s; constructor) | (apply Ab.gY; case hw => assumption) | (apply Ab.gNT; case hw => assumption) | (apply Ab.gNF; case hw => assumption) | ((first | apply Ab.gD | apply Ab.gDN); all_goals (intro _ _; (first | contradiction | (exfalso; omega) | skip)))) | (apply Ab.K.awp; first | (apply Xg.s; constructor)) | (apply Ab.K.at_; exact at_) | (apply Ab.K.acall; first | assumption | exact c24) | (apply Ab.Rg.mk; omega) | (apply Ab.Lt.mk; first | decide | (simp; done) | (simp; omega) | fail) | (apply Ab.Get.mk; first | rfl | first | rfl | exact gh) | (apply Ab.Nm.mk; first | exact (show (([.slice A n c, .slice B m d] : List Value).drop 0).take 2 = [.slice A n c, .slice B m d] from rfl) | exact nrm_) | (apply Xg.s; constructor) | (apply Ab.asm; assumption) | rfl | infer_instance | decide))
  all_goals ((first | apply RetQ.ret | apply RetQ.normal); (case he => exact evr_); (case hg => rfl))
  all_goals first | rfl | exact Keeps.fr (Fr.new (hT.free (by omega)) F2) (plR.nm rfl)
end Go.Proofs.Ytdbnpghckgmaoaa
