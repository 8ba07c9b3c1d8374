/- trees: the document's guard, its lists of nodes, the edges on a way. -/
import Derived.Test.YtnbgeodignljfaaTE
namespace Go.Proofs.Ytnbgeodignljfaa
set_option linter.unusedVariables false
set_option linter.unusedSimpArgs false
set_option linter.unusedSectionVars false
open Go.RowKit Ab TP
attribute [local irreducible] AOps AOpsD AOp AWp put nargs AHeap.set At Free ACall thenQ blockQ roundQ RetQ Src bsn
noncomputable def okB (l : List E) (a b : Int) : Bool := decide (TP.Good l) && (foB l && (decide (TP.Node a) && decide (TP.Node b)))
theorem okB_iff {l : List E} {a b : Int} : okB l a b = true ↔ TP.Good l ∧ Forest l ∧ TP.Node a ∧ TP.Node b := by
  unfold okB
  simp only [Bool.and_eq_true, decide_eq_true_iff, foB_iff]
theorem Good.node {l : List E} (h : TP.Good l) : ∀ e ∈ l, TP.Node e.a ∧ TP.Node e.b := fun e he => ⟨(h.1 e he).1, (h.1 e he).2.1⟩
theorem may8 {s : AHeap} {A : Option Addr} {n c : Nat} {on : Option Nat} {l : List E} {a b : Int} (h : EA s (.slice A n c) on l) (hn : n ≤ 512) :
    ACall Try.prog 8 [.slice A n c, .int .i64 a, .int .i64 b] s (.bool (okB l a b)) s := by
  have c26 := check26 h hn
  have na : ACall Try.prog 15 [.int .i64 a] s (.bool (decide (TP.Node a))) s := node15
  have nb : ACall Try.prog 15 [.int .i64 b] s (.bool (decide (TP.Node b))) s := node15
  by_cases hg : TP.Good l
  · have c22 := forest22 h (Good.node hg) (by omega)
    rw [ck_y hg] at c26

    cases hf : foB l
    · rw [hf] at c22
      have ha := True.intro
      have hb := True.intro
      (refine ACall.make Try.func8 rfl (by kernel_rfl) (by decide) rfl (fun N hN => ?_); have hT : Top N _ := hN; (repeat' (first | (apply Ab.K.ev; exact ev_) | (apply Ab.K.aops; first | (apply Xg.s; constructor) | (apply Ab.S.guardU; (case hd => rfl); (case hb => (exact ev_; done))) | apply Ab.S.guardG) | (apply Ab.K.aop; first | (apply Og.s; constructor)) | (apply Ab.K.gk; first | (apply Xg.s; constructor) | (apply Ab.gY; case hw => assumption) | (apply Ab.gNT; case hw => assumption) | (apply Ab.gNF; case hw => assumption) | ((first | apply Ab.gD | apply Ab.gDN); all_goals (intro _ _; (first | contradiction | (exfalso; omega) | skip)))) | (apply Ab.K.awp; first | (apply Xg.s; constructor)) | (apply Ab.K.at_; exact at_) | (apply Ab.K.acall; first | assumption | first | exact c26 | exact c22 | exact na | exact nb) | (apply Ab.Rg.mk; omega) | (apply Ab.Lt.mk; first | decide | (simp; done) | (simp; omega) | fail) | (apply Ab.Get.mk; first | rfl | fail) | (apply Ab.Nm.mk; first | exact nrm_) | (apply Xg.s; constructor) | (apply Ab.asm; assumption) | rfl | infer_instance | decide)); (all_goals ((first | apply RetQ.ret | apply RetQ.normal); (case he => exact evr_); (case hg => rfl))); (all_goals first | rfl | (apply Keeps.fr; (case h => exact fr_); (case hv => exact plR.nm rfl)) | (simp only [resV, okB, hg, hf, ha, hb, decide_true, decide_false, Bool.true_and, Bool.false_and, Bool.and_false])))
    · rw [hf] at c22
      by_cases ha : TP.Node a
      · rw [decide_eq_true ha] at na
        by_cases hb : TP.Node b
        · rw [decide_eq_true hb] at nb
          (refine ACall.make Try.func8 rfl (by kernel_rfl) (by decide) rfl (fun N hN => ?_); have hT : Top N _ := hN; (repeat' (first | (apply Ab.K.ev; exact ev_) | (apply Ab.K.aops; first | (apply Xg.s; constructor) | (apply Ab.S.guardU; (case hd => rfl); (case hb => (exact ev_; done))) | apply Ab.S.guardG) | (apply Ab.K.aop; first | (apply Og.s; constructor)) | (apply Ab.K.gk; first | (apply Xg.s; constructor) | (apply Ab.gY; case hw => assumption) | (apply Ab.gNT; case hw => assumption) | (apply Ab.gNF; case hw => assumption) | ((first | apply Ab.gD | apply Ab.gDN); all_goals (intro _ _; (first | contradiction | (exfalso; omega) | skip)))) | (apply Ab.K.awp; first | (apply Xg.s; constructor)) | (apply Ab.K.at_; exact at_) | (apply Ab.K.acall; first | assumption | first | exact c26 | exact c22 | exact na | exact nb) | (apply Ab.Rg.mk; omega) | (apply Ab.Lt.mk; first | decide | (simp; done) | (simp; omega) | fail) | (apply Ab.Get.mk; first | rfl | fail) | (apply Ab.Nm.mk; first | exact nrm_) | (apply Xg.s; constructor) | (apply Ab.asm; assumption) | rfl | infer_instance | decide)); (all_goals ((first | apply RetQ.ret | apply RetQ.normal); (case he => exact evr_); (case hg => rfl))); (all_goals first | rfl | (apply Keeps.fr; (case h => exact fr_); (case hv => exact plR.nm rfl)) | (simp only [resV, okB, hg, hf, ha, hb, decide_true, decide_false, Bool.true_and, Bool.false_and, Bool.and_false])))
        · rw [decide_eq_false hb] at nb
          (refine ACall.make Try.func8 rfl (by kernel_rfl) (by decide) rfl (fun N hN => ?_); have hT : Top N _ := hN; (repeat' (first | (apply Ab.K.ev; exact ev_) | (apply Ab.K.aops; first | (apply Xg.s; constructor) | (apply Ab.S.guardU; (case hd => rfl); (case hb => (exact ev_; done))) | apply Ab.S.guardG) | (apply Ab.K.aop; first | (apply Og.s; constructor)) | (apply Ab.K.gk; first | (apply Xg.s; constructor) | (apply Ab.gY; case hw => assumption) | (apply Ab.gNT; case hw => assumption) | (apply Ab.gNF; case hw => assumption) | ((first | apply Ab.gD | apply Ab.gDN); all_goals (intro _ _; (first | contradiction | (exfalso; omega) | skip)))) | (apply Ab.K.awp; first | (apply Xg.s; constructor)) | (apply Ab.K.at_; exact at_) | (apply Ab.K.acall; first | assumption | first | exact c26 | exact c22 | exact na | exact nb) | (apply Ab.Rg.mk; omega) | (apply Ab.Lt.mk; first | decide | (simp; done) | (simp; omega) | fail) | (apply Ab.Get.mk; first | rfl | fail) | (apply Ab.Nm.mk; first | exact nrm_) | (apply Xg.s; constructor) | (apply Ab.asm; assumption) | rfl | infer_instance | decide)); (all_goals ((first | apply RetQ.ret | apply RetQ.normal); (case he => exact evr_); (case hg => rfl))); (all_goals first | rfl | (apply Keeps.fr; (case h => exact fr_); (case hv => exact plR.nm rfl)) | (simp only [resV, okB, hg, hf, ha, hb, decide_true, decide_false, Bool.true_and, Bool.false_and, Bool.and_false])))
      · rw [decide_eq_false ha] at na
        have hb := True.intro
        (refine ACall.make Try.func8 rfl (by kernel_rfl) (by decide) rfl (fun N hN => ?_); have hT : Top N _ := hN; (repeat' (first | (apply Ab.K.ev; exact ev_) | (apply Ab.K.aops; first | (apply Xg.s; constructor) | (apply Ab.S.guardU; (case hd => rfl); (case hb => (exact ev_; done))) | apply Ab.S.guardG) | (apply Ab.K.aop; first | (apply Og.s; constructor)) | (apply Ab.K.gk; first | (apply Xg.s; constructor) | (apply Ab.gY; case hw => assumption) | (apply Ab.gNT; case hw => assumption) | (apply Ab.gNF; case hw => assumption) | ((first | apply Ab.gD | apply Ab.gDN); all_goals (intro _ _; (first | contradiction | (exfalso; omega) | skip)))) | (apply Ab.K.awp; first | (apply Xg.s; constructor)) | (apply Ab.K.at_; exact at_) | (apply Ab.K.acall; first | assumption | first | exact c26 | exact c22 | exact na | exact nb) | (apply Ab.Rg.mk; omega) | (apply Ab.Lt.mk; first | decide | (simp; done) | (simp; omega) | fail) | (apply Ab.Get.mk; first | rfl | fail) | (apply Ab.Nm.mk; first | exact nrm_) | (apply Xg.s; constructor) | (apply Ab.asm; assumption) | rfl | infer_instance | decide)); (all_goals ((first | apply RetQ.ret | apply RetQ.normal); (case he => exact evr_); (case hg => rfl))); (all_goals first | rfl | (apply Keeps.fr; (case h => exact fr_); (case hv => exact plR.nm rfl)) | (simp only [resV, okB, hg, hf, ha, hb, decide_true, decide_false, Bool.true_and, Bool.false_and, Bool.and_false])))
  · rw [ck_n hg] at c26
    have hf := True.intro
    have ha := True.intro
    have hb := True.intro
    (refine ACall.make Try.func8 rfl (by kernel_rfl) (by decide) rfl (fun N hN => ?_); have hT : Top N _ := hN; (repeat' (first | (apply Ab.K.ev; exact ev_) | (apply Ab.K.aops; first | (apply Xg.s; constructor) | (apply Ab.S.guardU; (case hd => rfl); (case hb => (exact ev_; done))) | apply Ab.S.guardG) | (apply Ab.K.aop; first | (apply Og.s; constructor)) | (apply Ab.K.gk; first | (apply Xg.s; constructor) | (apply Ab.gY; case hw => assumption) | (apply Ab.gNT; case hw => assumption) | (apply Ab.gNF; case hw => assumption) | ((first | apply Ab.gD | apply Ab.gDN); all_goals (intro _ _; (first | contradiction | (exfalso; omega) | skip)))) | (apply Ab.K.awp; first | (apply Xg.s; constructor)) | (apply Ab.K.at_; exact at_) | (apply Ab.K.acall; first | assumption | exact c26) | (apply Ab.Rg.mk; omega) | (apply Ab.Lt.mk; first | decide | (simp; done) | (simp; omega) | fail) | (apply Ab.Get.mk; first | rfl | fail) | (apply Ab.Nm.mk; first | exact nrm_) | (apply Xg.s; constructor) | (apply Ab.asm; assumption) | rfl | infer_instance | decide)); (all_goals ((first | apply RetQ.ret | apply RetQ.normal); (case he => exact evr_); (case hg => rfl))); (all_goals first | rfl | (apply Keeps.fr; (case h => exact fr_); (case hv => exact plR.nm rfl)) | (simp only [resV, okB, hg, hf, ha, hb, decide_true, decide_false, Bool.true_and, Bool.false_and, Bool.and_false])))

/-! ### a list that grows -/
theorem EA.own {s : AHeap} {q : Nat} {l : List E} (h : At s q (.cells true 3 (ecs l))) : EA s (.slice (some ⟨q, 0, none⟩) l.length l.length) (some q) l :=
  .blk h (Nat.le_refl _) (by rw [← ecs_length, List.take_length])
theorem NA.own {s : AHeap} {q : Nat} {l : List Int} (h : At s q (.cells true 1 (ints l))) : NA s (.slice (some ⟨q, 0, none⟩) l.length l.length) (some q) l :=
  .blk h (Nat.le_refl _) (by rw [← ints_length, List.take_length])
theorem linked14 {s : AHeap} {A : Option Addr} {n c : Nat} {on : Option Nat} {l : List E} {a : Int} {o : Nat} (h : EA s (.slice A n c) on l) (hl : ∀ e ∈ l, TP.Node e.a ∧ TP.Node e.b) (hn : n ≤ 512) (ho : s o = none) :
    ACall Try.prog 14 [.slice A n c, .int .i64 a] s (.slice (some ⟨o, 0, none⟩) (side l a).length (side l a).length) (s.set o (.cells true 1 (ints (side l a)))) := by
  have c27 := reach27 (a := a) h hl (by omega)
  refine ACall.make Try.func14 rfl (by kernel_rfl) (by decide) rfl (fun N hN => ?_)
  have hT : Top N s := hN


  (repeat' (first | (apply Ab.K.ev; exact ev_) | (apply Ab.K.aops; first | (apply Xg.s; constructor) | (apply Ab.S.guardU; (case hd => rfl); (case hb => (exact ev_; done))) | apply Ab.S.guardG) | (apply Ab.K.aop; first | (first | (apply Ab.O.allocA (l := bsn 65 fun _ => false) (N + 0); (case hid => exact frees_); (case hp => exact bsn_pl)) | (apply Ab.O.storeAll; (case hz => rfl); (case hx => exact ev_); (case hy => exact ev_); (case hs => exact at_); (case hl => exact bsn_length); (case hc => exact bsn_length)) | (apply Ab.O.build0 (N + 1) (te := ⟨.int .i64, 1, 8, .int .i64 0⟩); (case hz => exact ⟨rfl, rfl⟩); (case hid => exact frees_))) | (apply Og.s; constructor)) | (apply Ab.K.gk; first | (apply Xg.s; constructor) | (apply Ab.gY; case hw => assumption) | (apply Ab.gNT; case hw => assumption) | (apply Ab.gNF; case hw => assumption) | ((first | apply Ab.gD | apply Ab.gDN); all_goals (intro _ _; (first | contradiction | (exfalso; omega) | skip)))) | (apply Ab.K.awp; first | (apply Xg.s; constructor)) | (apply Ab.K.at_; exact at_) | (apply Ab.K.acall; first | assumption | exact c27) | (apply Ab.Rg.mk; omega) | (apply Ab.Lt.mk; first | decide | (simp; done) | (simp; omega) | fail) | (apply Ab.Get.mk; first | rfl | fail) | (apply Ab.Nm.mk; first | exact nrm_) | (apply Xg.s; constructor) | (apply Ab.asm; assumption) | rfl | infer_instance | decide))
  refine AWp.loop (fun kk tm s1 => ∃ (i q M : Nat), Ev tm (.tmp 5) (.pointer (some ⟨N + 0, 0, none⟩)) ∧ Ev tm (.tmp 6) (.slice (some ⟨q, 0, none⟩) (lkN (reachB l a) i).length (lkN (reachB l a) i).length) ∧ Ev tm (.tmp 7) (.int .i64 ((i + 1 : Nat) : Int)) ∧ At s1 (N + 0) (.cells true 1 (bsn 65 (reachB l a))) ∧ At s1 q (.cells true 1 (ints (lkN (reachB l a) i))) ∧ Fr s1 s [] ∧ N + 1 ≤ q ∧ Top M s1 ∧ i ≤ 64 ∧ kk = 64 - i) 64 ?_ ?_
  · exact ⟨0, N + 1, N + 2, by exact ev_, by exact ev_, by exact ev_, by exact at_, by exact at_, by exact fr_, Nat.le_refl _, ((hT.new (M := N)).set (by omega)).new, by omega, rfl⟩
  rintro kk tm s1 ⟨i, q, M, e5, e6, e7, a5, a6, F, hq, T, hi, hkk⟩
  have hqM := T.lt a6
  have hNM : N + 0 < M := T.lt a5
  have hlen := lkN_len (f := reachB l a) (k := i)
  by_cases hin : i < 64
  · have ga := bsn_get (n := 65) (f := reachB l a) (i := i + 1) (by omega)

    cases hf : reachB l a (i + 1)
    · rw [hf] at ga
      have hr : lkN (reachB l a) (i + 1) = lkN (reachB l a) i := by rw [lkN, if_neg (by rw [hf]; decide), List.append_nil]
      (repeat' (first | (apply Ab.K.ev; exact ev_) | (apply Ab.K.aops; first | (apply Xg.s; constructor) | (apply Ab.S.guardU; (case hd => rfl); (case hb => (exact ev_; done))) | apply Ab.S.guardG) | (apply Ab.K.aop; first | (apply Og.s; constructor)) | (apply Ab.K.gk; first | (apply Xg.s; constructor) | (apply Ab.gY; case hw => assumption) | (apply Ab.gNT; case hw => assumption) | (apply Ab.gNF; case hw => assumption) | ((first | apply Ab.gD | apply Ab.gDN); all_goals (intro _ _; (first | contradiction | (exfalso; omega) | skip)))) | (apply Ab.K.awp; first | (apply Xg.s; constructor)) | (apply Ab.K.at_; exact at_) | (apply Ab.K.acall; first | assumption | fail) | (apply Ab.Rg.mk; omega) | (apply Ab.Lt.mk; first | decide | (simp; done) | (simp; omega) | fail) | (apply Ab.Get.mk; first | rfl | first | exact ga) | (apply Ab.Nm.mk; first | exact nrm_) | (apply Xg.s; constructor) | (apply Ab.asm; assumption) | rfl | infer_instance | decide))
      exact X.roundN (64 - (i + 1)) (by omega) ⟨i + 1, q, M, by exact ev_, by rw [hr]; exact ev_, by exact ev_, a5, by rw [hr]; exact a6, F, hq, T, by omega, rfl⟩
    · rw [hf] at ga
      have hr : lkN (reachB l a) (i + 1) = lkN (reachB l a) i ++ [((i + 1 : Nat) : Int)] := by rw [lkN, if_pos hf]
      (repeat' (first | (apply Ab.K.ev; exact ev_) | (apply Ab.K.aops; first | (apply Xg.s; constructor) | (apply Ab.S.guardU; (case hd => rfl); (case hb => (exact ev_; done))) | apply Ab.S.guardG) | (apply Ab.K.aop; first | (apply Ab.O.build1 (M); (case hx => exact ev_); (case hv => exact ⟨rfl, rfl⟩); (case hz => exact ⟨rfl, rfl⟩); (case hid => exact free_)) | (apply Og.s; constructor)) | (apply Ab.K.gk; first | (apply Xg.s; constructor) | (apply Ab.gY; case hw => assumption) | (apply Ab.gNT; case hw => assumption) | (apply Ab.gNF; case hw => assumption) | ((first | apply Ab.gD | apply Ab.gDN); all_goals (intro _ _; (first | contradiction | (exfalso; omega) | skip)))) | (apply Ab.K.awp; first | (apply Xg.s; constructor)) | (apply Ab.K.at_; exact at_) | (apply Ab.K.acall; first | assumption | fail) | (apply Ab.Rg.mk; omega) | (apply Ab.Lt.mk; first | decide | (simp; done) | (simp; omega) | fail) | (apply Ab.Get.mk; first | rfl | first | exact ga) | (apply Ab.Nm.mk; first | exact nrm_) | (apply Xg.s; constructor) | (apply Ab.asm; assumption) | rfl | infer_instance | decide))
      (apply Ab.O.appendL (M + 1); (case hx => exact ev_); (case hL => first | exact LAt.nil | exact LAt.blk (by exact at_) (by first | rfl | simp [ints_length])); (case hy => exact ev_); (case hs => first | exact Src.sl (by exact at_) (by decide) (by decide) rfl | exact srcAll (by exact at_) (by first | rfl | simp [ints_length])); (case hk => rfl); (case hm => decide); (case hl => first | rfl | first | rfl | simp [ints_length]); (case hz => decide); (case hb => omega); (case hfree => exact free_))
      intro s2 g
      have out : ∀ j, j < M → q ≠ j → s2 j = s1 j := fun j hj hne => by rw [g.off _ (fun e => hne (Option.some.inj e)) (by omega), AHeap.set_other _ _ (by omega)]
      have T2 := g.topN T.new (fun q' e => by have := Option.some.inj e; omega)
      have F2 := g.fr (Fr.new (free_of (none_of T F _ (Nat.le_refl _))) F) (fun q' e => .inl (hT.none (by have := Option.some.inj e; omega)))
      have a5' : At s2 (N + 0) (.cells true 1 (bsn 65 (reachB l a))) := At.var (by rw [out _ hNM (by omega)]; exact a5.eq)
      have gh := g.hit
      (repeat' (first | (apply Ab.K.ev; exact ev_) | (apply Ab.K.aops; first | (apply Xg.s; constructor) | (apply Ab.S.guardU; (case hd => rfl); (case hb => (exact ev_; done))) | apply Ab.S.guardG) | (apply Ab.K.aop; first | (apply Og.s; constructor)) | (apply Ab.K.gk; first | (apply Xg.s; constructor) | (apply Ab.gY; case hw => assumption) | (apply Ab.gNT; case hw => assumption) | (apply Ab.gNF; case hw => assumption) | ((first | apply Ab.gD | apply Ab.gDN); all_goals (intro _ _; (first | contradiction | (exfalso; omega) | skip)))) | (apply Ab.K.awp; first | (apply Xg.s; constructor)) | (apply Ab.K.at_; exact at_) | (apply Ab.K.acall; first | assumption | fail) | (apply Ab.Rg.mk; omega) | (apply Ab.Lt.mk; first | decide | (simp; done) | (simp; omega) | fail) | (apply Ab.Get.mk; first | rfl | first | exact ga) | (apply Ab.Nm.mk; first | exact nrm_) | (apply Xg.s; constructor) | (apply Ab.asm; assumption) | rfl | infer_instance | decide))
      refine X.roundN (64 - (i + 1)) (by omega) ⟨i + 1, M + 1, M + 2, by exact ev_, by rw [hr, List.length_append]; exact ev_, by exact ev_, a5', by rw [hr, ints_append]; exact gh, F2, by omega, T2, by omega, rfl⟩
  · obtain rfl : i = 64 := by omega
    (repeat' (first | (apply Ab.K.ev; exact ev_) | (apply Ab.K.aops; first | (apply Xg.s; constructor) | (apply Ab.S.guardU; (case hd => rfl); (case hb => (exact ev_; done))) | apply Ab.S.guardG) | (apply Ab.K.aop; first | (apply Og.s; constructor)) | (apply Ab.K.gk; first | (apply Xg.s; constructor) | (apply Ab.gY; case hw => assumption) | (apply Ab.gNT; case hw => assumption) | (apply Ab.gNF; case hw => assumption) | ((first | apply Ab.gD | apply Ab.gDN); all_goals (intro _ _; (first | contradiction | (exfalso; omega) | skip)))) | (apply Ab.K.awp; first | (apply Xg.s; constructor)) | (apply Ab.K.at_; exact at_) | (apply Ab.K.acall; first | assumption | fail) | (apply Ab.Rg.mk; omega) | (apply Ab.Lt.mk; first | decide | (simp; done) | (simp; omega) | fail) | (apply Ab.Get.mk; first | rfl | first | exact ga) | (apply Ab.Nm.mk; first | exact nrm_) | (apply Xg.s; constructor) | (apply Ab.asm; assumption) | rfl | infer_instance | decide))
    apply RetQ.retR (renL (dn [(o, q, .cells true 1 (ints (side l a)))]))
    (case he => exact evr_)
    (case hg => rfl)
    · simp [resV, mpR, mpB, mp1, mpA, renL_hit, side]
    · exact KeepsR.new1 ho (hT.none (by omega)) F a6 (ints_pl _) rfl
    · simp
theorem side18 {s : AHeap} {A : Option Addr} {n c : Nat} {on : Option Nat} {l : List E} {e : E} {a : Int} {o : Nat} (h : EA s (.slice A n c) on l) (hl : ∀ e ∈ l, TP.Node e.a ∧ TP.Node e.b) (hn : n ≤ 512) (ho : s o = none) :
    ACall Try.prog 18 [.slice A n c, .agg (ec e).toArray, .int .i64 a] s (.slice (some ⟨o, 0, none⟩) (side (rm l e) a).length (side (rm l e) a).length) (s.set o (.cells true 1 (ints (side (rm l e) a)))) := by
  have hnl : n = l.length := by obtain ⟨_, _, e⟩ := h.isl; injection e
  refine ACall.make Try.func18 rfl (by kernel_rfl) (by decide) rfl (fun N hN => ?_)
  have hT : Top N s := hN
  have F0 : Fr (s.set (N + 0) (.cells true 1 (ec e))) s [] := Fr.new (hT.free (by omega)) (Fr.refl _ _)
  have T0 : Top (N + 1) (s.set (N + 0) (.cells true 1 (ec e))) := hT.new
  have c37 := without37 (e := e) (o := N + 1) (h.fr F0) (by omega) (T0.none (by omega))
  have h2 : EA ((s.set (N + 0) (.cells true 1 (ec e))).set (N + 1) (.cells true 3 (ecs (rm l e)))) (.slice (some ⟨N + 1, 0, none⟩) (rm l e).length (rm l e).length) (some (N + 1)) (rm l e) := EA.own At.hit
  have c14 := linked14 (a := a) (o := N + 2) h2 (fun f hf => hl f (rm_sub f hf)) (Nat.le_trans rm_len (by omega)) ((T0.new).none (by omega))



  (repeat' (first | (apply Ab.K.ev; exact ev_) | (apply Ab.K.aops; first | (apply Xg.s; constructor) | (apply Ab.S.guardU; (case hd => rfl); (case hb => (exact ev_; done))) | apply Ab.S.guardG) | (apply Ab.K.aop; first | (apply Ab.O.boxA (l := ec e) (N + 0); (case hx => exact ev_); (case hid => exact frees_)) | (apply Og.s; constructor)) | (apply Ab.K.gk; first | (apply Xg.s; constructor) | (apply Ab.gY; case hw => assumption) | (apply Ab.gNT; case hw => assumption) | (apply Ab.gNF; case hw => assumption) | ((first | apply Ab.gD | apply Ab.gDN); all_goals (intro _ _; (first | contradiction | (exfalso; omega) | skip)))) | (apply Ab.K.awp; first | (apply Xg.s; constructor)) | (apply Ab.K.at_; exact at_) | (apply Ab.K.acall; first | assumption | first | exact c37 | exact c14) | (apply Ab.Rg.mk; omega) | (apply Ab.Lt.mk; first | decide | (simp; done) | (simp; omega) | (show (0 + 3 : Nat) < 3 + 1; decide)) | (apply Ab.Get.mk; first | rfl | first | exact ga) | (apply Ab.Nm.mk; first | exact (show ((ec e).drop 0).take 3 = ec e from rfl) | exact nrm_) | (apply Xg.s; constructor) | (apply Ab.asm; assumption) | rfl | infer_instance | decide))
  apply RetQ.retR (renL (dn [(o, N + 2, .cells true 1 (ints (side (rm l e) a)))]))
  (case he => exact evr_)
  (case hg => rfl)
  · simp [resV, mpR, mpB, mp1, mpA, renL_hit]
  · exact KeepsR.new1 ho (hT.none (by omega)) (by exact fr_) At.hit (ints_pl _) rfl
  · simp
end Go.Proofs.Ytnbgeodignljfaa
