/- trees: the document's links; edges but one. -/
import Derived.Test.YtnbgeodignljfaaTC
namespace Go.Proofs.Ytnbgeodignljfaa
set_option linter.unusedVariables false
set_option linter.unusedSimpArgs false
set_option linter.unusedSectionVars false
open Go.RowKit Ab TP
attribute [local irreducible] AOps AOpsD AOp AWp put nargs AHeap.set At Free ACall thenQ blockQ roundQ RetQ Src bsn
theorem none_of {M : Nat} {s s1 : AHeap} (T : Top M s1) (F : Fr s1 s []) (i : Nat) (hi : M ≤ i) : s i = none := by
  cases h : s i with
  | none => rfl
  | some b => have := F i (by simp) b h; rw [T i hi] at this; cases this
theorem free_of {s : AHeap} {i : Nat} (h : s i = none) : Free s i := by unfold Free; exact h
theorem idx51 {f : Nat → Bool} {i : Int} (h : 0 ≤ i ∧ i < 65) : aindexV Try.prog 51 (.agg (bsn 65 f).toArray) (.int .i64 i) = some (.bool (f i.toNat)) := by
  have h4 : tdOf Try.prog 4 = some ⟨.bool, 1, 1, .bool false⟩ := by kernel_rfl
  have hg := bsn_get (n := 65) (f := f) (i := i.toNat) (by omega)
  have hi : (0 ≤ i ∧ i < ((65 : Nat) : Int)) := by omega
  simp only [aindexV, td51.is, h4, if_pos hi, apart, Nat.mul_one]
  simp [TD.agg, hg]
noncomputable def lkB (l : List E) (a b : Int) : Bool := decide (TP.Node a) && (decide (TP.Node b) && reachB l a b.toNat)
theorem lkB_iff {l : List E} {a b : Int} : lkB l a b = true ↔ TP.Node a ∧ TP.Node b ∧ Conn l a b := by
  unfold lkB
  rw [Bool.and_eq_true, Bool.and_eq_true, decide_eq_true_iff, decide_eq_true_iff, reachB_iff]
  constructor
  · rintro ⟨h1, h2, _, h3⟩
    rw [show ((b.toNat : Nat) : Int) = b from by have := h2.1; omega] at h3
    exact ⟨h1, h2, h3⟩
  · rintro ⟨h1, h2, h3⟩
    refine ⟨h1, h2, h1, ?_⟩
    rw [show ((b.toNat : Nat) : Int) = b from by have := h2.1; omega]; exact h3
theorem linked9 {s : AHeap} {A : Option Addr} {n c : Nat} {on : Option Nat} {l : List E} {a b : Int} (h : EA s (.slice A n c) on l) (hl : ∀ e ∈ l, TP.Node e.a ∧ TP.Node e.b) (hn : n < 4611686018427387904) :
    ACall Try.prog 9 [.slice A n c, .int .i64 a, .int .i64 b] s (.bool (lkB l a b)) s := by
  have c27 := reach27 (a := a) h hl hn
  have hnode : ∀ (s : AHeap) (n : Int), ACall Try.prog 15 [.int .i64 n] s (.bool (decide (TP.Node n))) s := fun s n => node15
  by_cases ha : TP.Node a
  · have na := hnode s a
    rw [decide_eq_true ha] at na
    by_cases hb : TP.Node b
    · have nb := hnode s b
      rw [decide_eq_true hb] at nb
      have hix := idx51 (f := reachB l a) (i := b) (by have := hb.1; have := hb.2; omega)


      (refine ACall.make Try.func9 rfl (by kernel_rfl) (by decide) rfl (fun N hN => ?_); have hT : Top N _ := hN; (repeat' (first | (apply Ab.K.ev; exact ev_) | (apply Ab.K.aops; first | (apply Xg.s; constructor) | (apply Ab.S.guardU; (case hd => rfl); (case hb => (exact ev_; done))) | apply Ab.S.guardG) | (apply Ab.K.aop; first | (apply Ab.O.indexV; (case hx => exact ev_); (case hy => exact ev_); (case hv => exact hix)) | (apply Og.s; constructor)) | (apply Ab.K.gk; first | (apply Xg.s; constructor) | (apply Ab.gY; case hw => assumption) | (apply Ab.gNT; case hw => assumption) | (apply Ab.gNF; case hw => assumption) | ((first | apply Ab.gD | apply Ab.gDN); all_goals (intro _ _; (first | contradiction | (exfalso; omega) | skip)))) | (apply Ab.K.awp; first | (apply Xg.s; constructor)) | (apply Ab.K.at_; exact at_) | (apply Ab.K.acall; first | assumption | first | exact na | exact nb | exact c27) | (apply Ab.Rg.mk; omega) | (apply Ab.Lt.mk; first | decide | (simp; done) | (simp; omega) | fail) | (apply Ab.Get.mk; first | rfl | fail) | (apply Ab.Nm.mk; first | exact nrm_) | (apply Xg.s; constructor) | (apply Ab.asm; assumption) | rfl | infer_instance | decide)); (all_goals ((first | apply RetQ.ret | apply RetQ.normal); (case he => exact evr_); (case hg => rfl))); (all_goals first | rfl | (apply Keeps.fr; (case h => exact fr_); (case hv => exact plR.nm rfl)) | (simp only [resV, lkB, decide_eq_true ha, decide_eq_true hb, Bool.true_and])))
    · have nb := hnode s b
      rw [decide_eq_false hb] at nb
      (refine ACall.make Try.func9 rfl (by kernel_rfl) (by decide) rfl (fun N hN => ?_); have hT : Top N _ := hN; (repeat' (first | (apply Ab.K.ev; exact ev_) | (apply Ab.K.aops; first | (apply Xg.s; constructor) | (apply Ab.S.guardU; (case hd => rfl); (case hb => (exact ev_; done))) | apply Ab.S.guardG) | (apply Ab.K.aop; first | (apply Ab.O.indexV; (case hx => exact ev_); (case hy => exact ev_); (case hv => exact hix)) | (apply Og.s; constructor)) | (apply Ab.K.gk; first | (apply Xg.s; constructor) | (apply Ab.gY; case hw => assumption) | (apply Ab.gNT; case hw => assumption) | (apply Ab.gNF; case hw => assumption) | ((first | apply Ab.gD | apply Ab.gDN); all_goals (intro _ _; (first | contradiction | (exfalso; omega) | skip)))) | (apply Ab.K.awp; first | (apply Xg.s; constructor)) | (apply Ab.K.at_; exact at_) | (apply Ab.K.acall; first | assumption | first | exact na | exact nb | exact c27) | (apply Ab.Rg.mk; omega) | (apply Ab.Lt.mk; first | decide | (simp; done) | (simp; omega) | fail) | (apply Ab.Get.mk; first | rfl | fail) | (apply Ab.Nm.mk; first | exact nrm_) | (apply Xg.s; constructor) | (apply Ab.asm; assumption) | rfl | infer_instance | decide)); (all_goals ((first | apply RetQ.ret | apply RetQ.normal); (case he => exact evr_); (case hg => rfl))); (all_goals first | rfl | (apply Keeps.fr; (case h => exact fr_); (case hv => exact plR.nm rfl)) | (simp only [resV, lkB, decide_eq_true ha, decide_eq_false hb, Bool.true_and, Bool.false_and])))
  · have na := hnode s a
    rw [decide_eq_false ha] at na
    (refine ACall.make Try.func9 rfl (by kernel_rfl) (by decide) rfl (fun N hN => ?_); have hT : Top N _ := hN; (repeat' (first | (apply Ab.K.ev; exact ev_) | (apply Ab.K.aops; first | (apply Xg.s; constructor) | (apply Ab.S.guardU; (case hd => rfl); (case hb => (exact ev_; done))) | apply Ab.S.guardG) | (apply Ab.K.aop; first | (apply Ab.O.indexV; (case hx => exact ev_); (case hy => exact ev_); (case hv => exact hix)) | (apply Og.s; constructor)) | (apply Ab.K.gk; first | (apply Xg.s; constructor) | (apply Ab.gY; case hw => assumption) | (apply Ab.gNT; case hw => assumption) | (apply Ab.gNF; case hw => assumption) | ((first | apply Ab.gD | apply Ab.gDN); all_goals (intro _ _; (first | contradiction | (exfalso; omega) | skip)))) | (apply Ab.K.awp; first | (apply Xg.s; constructor)) | (apply Ab.K.at_; exact at_) | (apply Ab.K.acall; first | assumption | first | exact na | exact nb | exact c27) | (apply Ab.Rg.mk; omega) | (apply Ab.Lt.mk; first | decide | (simp; done) | (simp; omega) | fail) | (apply Ab.Get.mk; first | rfl | fail) | (apply Ab.Nm.mk; first | exact nrm_) | (apply Xg.s; constructor) | (apply Ab.asm; assumption) | rfl | infer_instance | decide)); (all_goals ((first | apply RetQ.ret | apply RetQ.normal); (case he => exact evr_); (case hg => rfl))); (all_goals first | rfl | (apply Keeps.fr; (case h => exact fr_); (case hv => exact plR.nm rfl)) | (simp only [resV, lkB, decide_eq_false ha, Bool.false_and])))

theorem rm_snoc {l : List E} {f e : E} : rm (l ++ [f]) e = rm l e ++ if f = e then [] else [f] := by
  unfold rm
  rw [List.filter_append]
  by_cases h : f = e <;> simp [h]
theorem rm_len {l : List E} {e : E} : (rm l e).length ≤ l.length := List.length_filter_le _ _
theorem without37 {s : AHeap} {A : Option Addr} {n c : Nat} {on : Option Nat} {l : List E} {e : E} {o : Nat} (h : EA s (.slice A n c) on l) (hn : n ≤ 1000) (ho : s o = none) :
    ACall Try.prog 37 [.slice A n c, .agg (ec e).toArray] s (.slice (some ⟨o, 0, none⟩) (rm l e).length (rm l e).length) (s.set o (.cells true 3 (ecs (rm l e)))) := by
  have hnl : n = l.length := by obtain ⟨_, _, e⟩ := h.isl; injection e
  refine ACall.make Try.func37 rfl (by kernel_rfl) (by decide) rfl (fun N hN => ?_)
  have hT : Top N s := hN

  (repeat' (first | (apply Ab.K.ev; exact ev_) | (apply Ab.K.aops; first | (apply Xg.s; constructor) | (apply Ab.S.guardU; (case hd => rfl); (case hb => (exact ev_; done))) | apply Ab.S.guardG) | (apply Ab.K.aop; first | (first | (apply Ab.O.boxA (l := ec e) (N + 0); (case hx => exact ev_); (case hid => exact frees_)) | (apply Ab.O.build0 (N + 1) (te := ⟨.struct [(0, 3), (1, 3), (2, 3)], 3, 24, .agg #[.int .i64 0, .int .i64 0, .int .i64 0]⟩); (case hz => exact ⟨rfl, rfl⟩); (case hid => exact frees_))) | (apply Og.s; constructor)) | (apply Ab.K.gk; first | (apply Xg.s; constructor) | (apply Ab.gY; case hw => assumption) | (apply Ab.gNT; case hw => assumption) | (apply Ab.gNF; case hw => assumption) | ((first | apply Ab.gD | apply Ab.gDN); all_goals (intro _ _; (first | contradiction | (exfalso; omega) | skip)))) | (apply Ab.K.awp; first | (apply Xg.s; constructor)) | (apply Ab.K.at_; exact at_) | (apply Ab.K.acall; first | assumption | fail) | (apply Ab.Rg.mk; omega) | (apply Ab.Lt.mk; first | decide | (simp; done) | (simp; omega) | fail) | (apply Ab.Get.mk; first | rfl | fail) | (apply Ab.Nm.mk; first | exact nrm_) | (apply Xg.s; constructor) | (apply Ab.asm; assumption) | rfl | infer_instance | decide))
  refine AWp.loop (fun kk tm s1 => ∃ (i q M : Nat), Ev tm (.tmp 0) (.slice A n c) ∧ Ev tm (.tmp 3) (.pointer (some ⟨N + 0, 0, none⟩)) ∧ Ev tm (.tmp 5) (.slice (some ⟨q, 0, none⟩) (rm (l.take i) e).length (rm (l.take i) e).length) ∧ Ev tm (.tmp 6) (.int .i64 i) ∧ At s1 (N + 0) (.cells true 1 (ec e)) ∧ At s1 q (.cells true 3 (ecs (rm (l.take i) e))) ∧ Fr s1 s [] ∧ N + 1 ≤ q ∧ Top M s1 ∧ i ≤ n ∧ kk = n - i) n ?_ ?_
  · exact ⟨0, N + 1, N + 2, by exact ev_, by exact ev_, by exact ev_, by exact ev_, by exact at_, by exact at_, by exact fr_, Nat.le_refl _, (hT.new (M := N)).new, by omega, rfl⟩
  rintro kk tm s1 ⟨i, q, M, e0, e3, e5, e6, a3, a5, F, hq, T, hi, hkk⟩
  have hqM := T.lt a5
  by_cases hin : i < n
  · have hi' : l[i]? = some (l[i]'(by omega)) := List.getElem?_eq_getElem (by omega)
    obtain ⟨f, hff⟩ : ∃ f, f = l[i]'(by omega) := ⟨_, rfl⟩
    rw [← hff] at hi'
    have htk : l.take (i + 1) = l.take i ++ [f] := by rw [List.take_add_one, hi']; rfl
    obtain ⟨q', rw1, cs, rfl, hon, _, hq', _, hE, _⟩ := (h.fr F).elt hi'
    have hqN := h.lt hT q' hon
    have hNM : N + 0 < M := T.lt a3
    have hkl : (rm (l.take i) e).length ≤ n := Nat.le_trans rm_len (by rw [List.length_take]; omega)

    by_cases hfe : f = e
    · have q1 : ∀ x y, ABin Try.prog .neq 32 x y (.agg (ec f).toArray) (.agg (ec e).toArray) (.bool false) := fun x y => by have := ne32 (x := x) (y := y) (e := f) (f := e); rwa [decide_eq_true hfe] at this
      have hr : rm (l.take (i + 1)) e = rm (l.take i) e := by rw [htk, rm_snoc, if_pos hfe, List.append_nil]

      (repeat' (first | (apply Ab.K.ev; exact ev_) | (apply Ab.K.aops; first | (apply Xg.s; constructor) | (apply Ab.S.guardU; (case hd => rfl); (case hb => (exact ev_; done))) | apply Ab.S.guardG) | (apply Ab.K.aop; first | (apply Ab.O.bin; (case hx => exact ev_); (case hy => exact ev_); (case hv => exact q1 _ _)) | (apply Og.s; constructor)) | (apply Ab.K.gk; first | (apply Xg.s; constructor) | (apply Ab.gY; case hw => assumption) | (apply Ab.gNT; case hw => assumption) | (apply Ab.gNF; case hw => assumption) | ((first | apply Ab.gD | apply Ab.gDN); all_goals (intro _ _; (first | contradiction | (exfalso; omega) | skip)))) | (apply Ab.K.aopsD; first | (apply Ab.D.q0t; (case hw => rfl); (case hot => rfl)) | (apply Ab.D.w1t; (case hw => rfl); (case hot => rfl)) | (apply Ab.D.q0; (case hw => rfl); intro _ _) | (apply Ab.D.w1n; (case hw => rfl); intro _ _) | (apply Ab.D.w2n; (case hw => rfl); intro _ _) | (apply Xg.s; constructor) | fail | apply Ab.D.guardG) | exact ⟨rfl, rfl⟩ | (apply Ab.K.awp; first | (apply AWp.draw (id := 5) [[], [], [0, 1], [0, 1, 2], [], [0, 1, 2, 3, 4]] [] (by kernel_rfl) (by kernel_rfl) (by simp [apartW, unordB, cC] <;> omega)) | (apply Xg.s; constructor)) | (apply Ab.K.at_; exact at_) | (apply Ab.K.acall; first | assumption | fail) | (apply Ab.Rg.mk; omega) | (apply Ab.Lt.mk; first | decide | (simp; done) | (simp; omega) | first | omega | (show (0 + 3 : Nat) < 3 + 1; decide)) | (apply Ab.Get.mk; first | rfl | fail) | (apply Ab.Nm.mk; first | first | exact Eq.trans (congrArg (fun z => List.take _ (List.drop (z * 3) cs)) (Int.toNat_natCast i)) hE | exact (show ((ec e).drop 0).take 3 = ec e from rfl) | exact nrm_) | (apply Xg.s; constructor) | (apply Ab.asm; assumption) | rfl | infer_instance | decide))
      exact X.roundN (n - (i + 1)) (by omega) ⟨i + 1, q, M, by exact ev_, by exact ev_, by rw [hr]; exact ev_, by exact ev_, a3, by rw [hr]; exact a5, F, hq, T, by omega, rfl⟩
    · have q1 : ∀ x y, ABin Try.prog .neq 32 x y (.agg (ec f).toArray) (.agg (ec e).toArray) (.bool true) := fun x y => by have := ne32 (x := x) (y := y) (e := f) (f := e); rwa [decide_eq_false hfe] at this
      have hr : rm (l.take (i + 1)) e = rm (l.take i) e ++ [f] := by rw [htk, rm_snoc, if_neg hfe]
      (repeat' (first | (apply Ab.K.ev; exact ev_) | (apply Ab.K.aops; first | (apply Xg.s; constructor) | (apply Ab.S.guardU; (case hd => rfl); (case hb => (exact ev_; done))) | apply Ab.S.guardG) | (apply Ab.K.aop; first | (first | (apply Ab.O.bin; (case hx => exact ev_); (case hy => exact ev_); (case hv => exact q1 _ _)) | (apply Ab.O.build1A M; (case hx => exact ev_); (case hl => rfl); (case hz => exact ⟨rfl, rfl⟩); (case hes => decide); (case hid => exact T.free (Nat.le_refl _)))) | (apply Og.s; constructor)) | (apply Ab.K.gk; first | (apply Xg.s; constructor) | (apply Ab.gY; case hw => assumption) | (apply Ab.gNT; case hw => assumption) | (apply Ab.gNF; case hw => assumption) | ((first | apply Ab.gD | apply Ab.gDN); all_goals (intro _ _; (first | contradiction | (exfalso; omega) | skip)))) | (apply Ab.K.aopsD; first | (apply Ab.D.q0t; (case hw => rfl); (case hot => rfl)) | (apply Ab.D.w1t; (case hw => rfl); (case hot => rfl)) | (apply Ab.D.q0; (case hw => rfl); intro _ _) | (apply Ab.D.w1n; (case hw => rfl); intro _ _) | (apply Ab.D.w2n; (case hw => rfl); intro _ _) | (apply Xg.s; constructor) | fail | apply Ab.D.guardG) | exact ⟨rfl, rfl⟩ | (apply Ab.K.awp; first | (apply AWp.draw (id := 5) [[], [], [0, 1], [0, 1, 2], [], [0, 1, 2, 3, 4]] [] (by kernel_rfl) (by kernel_rfl) (by simp [apartW, unordB, cC] <;> omega)) | (apply Xg.s; constructor)) | (apply Ab.K.at_; exact at_) | (apply Ab.K.acall; first | assumption | fail) | (apply Ab.Rg.mk; omega) | (apply Ab.Lt.mk; first | decide | (simp; done) | (simp; omega) | first | omega | (show (0 + 3 : Nat) < 3 + 1; decide)) | (apply Ab.Get.mk; first | rfl | fail) | (apply Ab.Nm.mk; first | first | exact Eq.trans (congrArg (fun z => List.take _ (List.drop (z * 3) cs)) (Int.toNat_natCast i)) hE | exact (show ((ec e).drop 0).take 3 = ec e from rfl) | exact nrm_) | (apply Xg.s; constructor) | (apply Ab.asm; assumption) | rfl | infer_instance | decide))
      (apply Ab.O.appendL (M + 1); (case hx => exact ev_); (case hL => first | exact LAt.nil | exact LAt.blk (by exact at_) (by first | rfl | simp [ecs_length])); (case hy => exact ev_); (case hs => first | exact Src.sl (by exact at_) (by decide) (by decide) rfl | exact srcAll (by exact at_) (by first | rfl | simp [ecs_length])); (case hk => rfl); (case hm => decide); (case hl => first | rfl | first | rfl | simp [ecs_length]); (case hz => decide); (case hb => omega); (case hfree => exact free_))
      intro s2 g
      have out : ∀ j, j < M → q ≠ j → s2 j = s1 j := fun j hj hne => by rw [g.off _ (fun e => hne (Option.some.inj e)) (by omega), AHeap.set_other _ _ (by omega)]
      have T2 := g.topN T.new (fun q' e => by have := Option.some.inj e; omega)
      have F2 := g.fr (Fr.new (free_of (none_of T F _ (Nat.le_refl _))) F) (fun q' e => .inl (hT.none (by have := Option.some.inj e; omega)))
      have a3' : At s2 (N + 0) (.cells true 1 (ec e)) := At.var (by rw [out _ hNM (by omega)]; exact a3.eq)
      have gh := g.hit
      (repeat' (first | (apply Ab.K.ev; exact ev_) | (apply Ab.K.aops; first | (apply Xg.s; constructor) | (apply Ab.S.guardU; (case hd => rfl); (case hb => (exact ev_; done))) | apply Ab.S.guardG) | (apply Ab.K.aop; first | (apply Og.s; constructor)) | (apply Ab.K.gk; first | (apply Xg.s; constructor) | (apply Ab.gY; case hw => assumption) | (apply Ab.gNT; case hw => assumption) | (apply Ab.gNF; case hw => assumption) | ((first | apply Ab.gD | apply Ab.gDN); all_goals (intro _ _; (first | contradiction | (exfalso; omega) | skip)))) | (apply Ab.K.awp; first | (apply Xg.s; constructor)) | (apply Ab.K.at_; exact at_) | (apply Ab.K.acall; first | assumption | fail) | (apply Ab.Rg.mk; omega) | (apply Ab.Lt.mk; first | decide | (simp; done) | (simp; omega) | first | omega | (show (0 + 3 : Nat) < 3 + 1; decide)) | (apply Ab.Get.mk; first | rfl | fail) | (apply Ab.Nm.mk; first | first | exact Eq.trans (congrArg (fun z => List.take _ (List.drop (z * 3) cs)) (Int.toNat_natCast i)) hE | exact (show ((ec e).drop 0).take 3 = ec e from rfl) | exact nrm_) | (apply Xg.s; constructor) | (apply Ab.asm; assumption) | rfl | infer_instance | decide))
      refine X.roundN (n - (i + 1)) (by omega) ⟨i + 1, M + 1, M + 2, by exact ev_, by exact ev_, by rw [hr, List.length_append]; exact ev_, by exact ev_, a3', by rw [hr, ecs_append]; exact gh, F2, by omega, T2, by omega, rfl⟩
  · obtain rfl : i = n := by omega
    rw [hnl, List.take_length] at e5 a5
    (repeat' (first | (apply Ab.K.ev; exact ev_) | (apply Ab.K.aops; first | (apply Xg.s; constructor) | (apply Ab.S.guardU; (case hd => rfl); (case hb => (exact ev_; done))) | apply Ab.S.guardG) | (apply Ab.K.aop; first | (apply Og.s; constructor)) | (apply Ab.K.gk; first | (apply Xg.s; constructor) | (apply Ab.gY; case hw => assumption) | (apply Ab.gNT; case hw => assumption) | (apply Ab.gNF; case hw => assumption) | ((first | apply Ab.gD | apply Ab.gDN); all_goals (intro _ _; (first | contradiction | (exfalso; omega) | skip)))) | (apply Ab.K.awp; first | (apply Xg.s; constructor)) | (apply Ab.K.at_; exact at_) | (apply Ab.K.acall; first | assumption | fail) | (apply Ab.Rg.mk; omega) | (apply Ab.Lt.mk; first | decide | (simp; done) | (simp; omega) | first | omega | (show (0 + 3 : Nat) < 3 + 1; decide)) | (apply Ab.Get.mk; first | rfl | fail) | (apply Ab.Nm.mk; first | first | exact Eq.trans (congrArg (fun z => List.take _ (List.drop (z * 3) cs)) (Int.toNat_natCast i)) hE | exact (show ((ec e).drop 0).take 3 = ec e from rfl) | exact nrm_) | (apply Xg.s; constructor) | (apply Ab.asm; assumption) | rfl | infer_instance | decide))
    apply RetQ.retR (renL (dn [(o, q, .cells true 3 (ecs (rm l e)))]))
    (case he => exact evr_)
    (case hg => rfl)
    · simp [resV, mpR, mpB, mp1, mpA, renL_hit]
    · exact KeepsR.new1 ho (hT.none (by omega)) F a5 (ecs_pl _) rfl
    · simp
end Go.Proofs.Ytnbgeodignljfaa
