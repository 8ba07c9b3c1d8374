/- trees: the program's ways. -/
import Derived.Test.YtnbgeodignljfaaTN
import Derived.Test.YtnbgeodignljfaaTM
namespace Go.Proofs.Ytnbgeodignljfaa
set_option linter.unusedVariables false
set_option linter.unusedSimpArgs false
set_option linter.unusedSectionVars false
open Go.RowKit Ab TP
attribute [local irreducible] AOps AOpsD AOp AWp put nargs AHeap.set At Free ACall ACallE thenQ blockQ roundQ RetQ RetE Src bsn
/-- What the program's way answers. -/
noncomputable def wOk (l : List E) (a b : Int) : Bool := gfB l && (decide (TP.Node a) && decide (TP.Node b))
theorem wOk_iff {l : List E} {a b : Int} : wOk l a b = true ↔ TP.Good l ∧ Forest l ∧ TP.Node a ∧ TP.Node b := by
  unfold wOk gfB
  simp only [Bool.and_eq_true, decide_eq_true_iff, foB_iff, and_assoc]
theorem way11_no {s : AHeap} {A : Option Addr} {n c : Nat} {on : Option Nat} {l : List E} {a b : Int} (h : EA s (.slice A n c) on l) (hn : n ≤ 512) (hno : wOk l a b = false) :
    ACall Try.prog 11 [.slice A n c, .int .i64 a, .int .i64 b] s (.tuple #[.slice none 0 0, .int .i64 1]) s := by
  have c28 := forest28 h hn
  have na : ACall Try.prog 29 [.int .i64 a] s (.bool (decide (TP.Node a))) s := node29
  have nb : ACall Try.prog 29 [.int .i64 b] s (.bool (decide (TP.Node b))) s := node29

  cases hgf : gfB l
  · rw [hgf] at c28
    (refine ACall.make Try.func11 rfl (by kernel_rfl) (by decide) rfl (fun N hN => ?_); have hT : Top N _ := hN; (repeat' (first | (apply Ab.K.ev; exact ev_) | (apply Ab.K.aops; first | (apply Xg.s; constructor) | (apply Ab.S.guardU; (case hd => rfl); (case hb => (exact ev_; done))) | apply Ab.S.guardG) | (apply Ab.K.aop; first | (apply Og.s; constructor)) | (apply Ab.K.gk; first | (apply Xg.s; constructor) | (apply Ab.gY; case hw => assumption) | (apply Ab.gNT; case hw => assumption) | (apply Ab.gNF; case hw => assumption) | ((first | apply Ab.gD | apply Ab.gDN); all_goals (intro _ _; (first | contradiction | (exfalso; omega) | skip)))) | (apply Ab.K.awp; first | (apply Xg.s; constructor)) | (apply Ab.K.at_; exact at_) | (apply Ab.K.acall; first | assumption | first | exact c28 | exact na | exact nb) | (apply Ab.Rg.mk; omega) | (apply Ab.Lt.mk; first | decide | (simp; done) | (simp; omega) | fail) | (apply Ab.Get.mk; first | rfl | fail) | (apply Ab.Nm.mk; first | exact nrm_) | (apply Xg.s; constructor) | (apply Ab.asm; assumption) | rfl | infer_instance | decide)); (all_goals ((first | apply RetQ.ret | apply RetQ.normal); (case he => exact evr_); (case hg => rfl))); (all_goals first | rfl | (apply Keeps.fr; (case h => exact fr_); (case hv => exact plR.nm rfl)) | fail))
  · rw [hgf] at c28
    by_cases ha : TP.Node a
    · rw [decide_eq_true ha] at na
      by_cases hb : TP.Node b
      · exfalso; rw [wOk, hgf, decide_eq_true ha, decide_eq_true hb] at hno; cases hno
      · rw [decide_eq_false hb] at nb
        (refine ACall.make Try.func11 rfl (by kernel_rfl) (by decide) rfl (fun N hN => ?_); have hT : Top N _ := hN; (repeat' (first | (apply Ab.K.ev; exact ev_) | (apply Ab.K.aops; first | (apply Xg.s; constructor) | (apply Ab.S.guardU; (case hd => rfl); (case hb => (exact ev_; done))) | apply Ab.S.guardG) | (apply Ab.K.aop; first | (apply Og.s; constructor)) | (apply Ab.K.gk; first | (apply Xg.s; constructor) | (apply Ab.gY; case hw => assumption) | (apply Ab.gNT; case hw => assumption) | (apply Ab.gNF; case hw => assumption) | ((first | apply Ab.gD | apply Ab.gDN); all_goals (intro _ _; (first | contradiction | (exfalso; omega) | skip)))) | (apply Ab.K.awp; first | (apply Xg.s; constructor)) | (apply Ab.K.at_; exact at_) | (apply Ab.K.acall; first | assumption | first | exact c28 | exact na | exact nb) | (apply Ab.Rg.mk; omega) | (apply Ab.Lt.mk; first | decide | (simp; done) | (simp; omega) | fail) | (apply Ab.Get.mk; first | rfl | fail) | (apply Ab.Nm.mk; first | exact nrm_) | (apply Xg.s; constructor) | (apply Ab.asm; assumption) | rfl | infer_instance | decide)); (all_goals ((first | apply RetQ.ret | apply RetQ.normal); (case he => exact evr_); (case hg => rfl))); (all_goals first | rfl | (apply Keeps.fr; (case h => exact fr_); (case hv => exact plR.nm rfl)) | fail))
    · rw [decide_eq_false ha] at na
      (refine ACall.make Try.func11 rfl (by kernel_rfl) (by decide) rfl (fun N hN => ?_); have hT : Top N _ := hN; (repeat' (first | (apply Ab.K.ev; exact ev_) | (apply Ab.K.aops; first | (apply Xg.s; constructor) | (apply Ab.S.guardU; (case hd => rfl); (case hb => (exact ev_; done))) | apply Ab.S.guardG) | (apply Ab.K.aop; first | (apply Og.s; constructor)) | (apply Ab.K.gk; first | (apply Xg.s; constructor) | (apply Ab.gY; case hw => assumption) | (apply Ab.gNT; case hw => assumption) | (apply Ab.gNF; case hw => assumption) | ((first | apply Ab.gD | apply Ab.gDN); all_goals (intro _ _; (first | contradiction | (exfalso; omega) | skip)))) | (apply Ab.K.awp; first | (apply Xg.s; constructor)) | (apply Ab.K.at_; exact at_) | (apply Ab.K.acall; first | assumption | first | exact c28 | exact na | exact nb) | (apply Ab.Rg.mk; omega) | (apply Ab.Lt.mk; first | decide | (simp; done) | (simp; omega) | fail) | (apply Ab.Get.mk; first | rfl | fail) | (apply Ab.Nm.mk; first | exact nrm_) | (apply Xg.s; constructor) | (apply Ab.asm; assumption) | rfl | infer_instance | decide)); (all_goals ((first | apply RetQ.ret | apply RetQ.normal); (case he => exact evr_); (case hg => rfl))); (all_goals first | rfl | (apply Keeps.fr; (case h => exact fr_); (case hv => exact plR.nm rfl)) | fail))
theorem ups_next {U : List Int} {root a : Int} {p : List Int} (h : Ups U root a p) : ∀ {k : Nat} {x : Int}, p[k]? = some x → (x = root ∧ k + 1 = p.length) ∨ (x ≠ root ∧ p[k + 1]? = some (JP.g U x)) := by
  induction h with
  | one =>
    intro k x hx
    cases k with
    | zero => simp at hx; exact .inl ⟨hx.symm, rfl⟩
    | succ k => simp at hx
  | cons hn r ih =>
    rename_i a p
    intro k x hx
    cases k with
    | zero =>
      simp at hx; subst hx
      refine .inr ⟨hn, ?_⟩
      cases r <;> rfl
    | succ k =>
      rw [List.getElem?_cons_succ] at hx
      rcases ih hx with ⟨h1, h2⟩ | ⟨h1, h2⟩
      · exact .inl ⟨h1, by rw [List.length_cons]; omega⟩
      · exact .inr ⟨h1, by rw [List.getElem?_cons_succ]; exact h2⟩
theorem way11_none {s : AHeap} {A : Option Addr} {n c : Nat} {on : Option Nat} {l : List E} {a b : Int} (h : EA s (.slice A n c) on l) (hn : n ≤ 512) (hok : wOk l a b = true) (hc : ¬ Conn l a b) :
    ACall Try.prog 11 [.slice A n c, .int .i64 a, .int .i64 b] s (.tuple #[.slice none 0 0, .int .i64 9]) s := by
  obtain ⟨hg, hf, ha, hb⟩ := wOk_iff.1 hok
  have c28 := forest28 h hn
  have na : ACall Try.prog 29 [.int .i64 a] s (.bool (decide (TP.Node a))) s := node29
  have nb : ACall Try.prog 29 [.int .i64 b] s (.bool (decide (TP.Node b))) s := node29
  rw [show gfB l = true from by simp [gfB, hg, foB_iff.2 hf]] at c28
  rw [decide_eq_true ha] at na
  rw [decide_eq_true hb] at nb
  have c30 := ups30 h hg hb hn
  have ha' : 1 ≤ a ∧ a ≤ 64 := ha
  refine ACall.make Try.func11 rfl (by kernel_rfl) (by decide) rfl (fun N hN => ?_)
  have hT : Top N s := hN

  (repeat' (first | (apply Ab.K.ev; exact ev_) | (apply Ab.K.aops; first | (apply Xg.s; constructor) | (apply Ab.S.guardU; (case hd => rfl); (case hb => (exact ev_; done))) | apply Ab.S.guardG) | (apply Ab.K.aop; first | (apply Ab.O.callFE; (case ha => exact evs_); (case hc => exact c30)) | (apply Og.s; constructor)) | (apply Ab.K.gk; first | (apply Xg.s; constructor) | (apply Ab.gY; case hw => assumption) | (apply Ab.gNT; case hw => assumption) | (apply Ab.gNF; case hw => assumption) | ((first | apply Ab.gD | apply Ab.gDN); all_goals (intro _ _; (first | contradiction | (exfalso; omega) | skip)))) | (apply Ab.K.awp; first | (apply Xg.s; constructor)) | (apply Ab.K.at_; exact at_) | (apply Ab.K.acall; first | assumption | first | exact c28 | exact na | exact nb) | (apply Ab.Rg.mk; omega) | (apply Ab.Lt.mk; first | decide | (simp; done) | (simp; omega) | fail) | (apply Ab.Get.mk; first | rfl | fail) | (apply Ab.Nm.mk; first | exact nrm_) | (apply Xg.s; constructor) | (apply Ab.asm; assumption) | rfl | infer_instance | decide))

  rintro v s2 ⟨U, Q, u, rfl, hu, rfl, B⟩
  have hinU : JP.In U a := ⟨by omega, by rw [B.len]; omega⟩
  have gU := ints_at hinU
  have hz : JP.g U a = 0 := by
    by_cases h0 : JP.g U a = 0
    · exact h0
    · exact absurd ((B.done).1 ((B.mem a (by omega) (by omega)).1 h0)).symm hc
  rw [hz] at gU
  have F : Fr (s.set u (.cells true 1 (ints U))) s [] := Fr.new (free_of hu) (Fr.refl _ _)
  (repeat' (first | (apply Ab.K.ev; exact ev_) | (apply Ab.K.aops; first | (apply Xg.s; constructor) | (apply Ab.S.guardU; (case hd => rfl); (case hb => (exact ev_; done))) | apply Ab.S.guardG) | (apply Ab.K.aop; first | (apply Og.s; constructor)) | (apply Ab.K.gk; first | (apply Xg.s; constructor) | (apply Ab.gY; case hw => assumption) | (apply Ab.gNT; case hw => assumption) | (apply Ab.gNF; case hw => assumption) | ((first | apply Ab.gD | apply Ab.gDN); all_goals (intro _ _; (first | contradiction | (exfalso; omega) | skip)))) | (apply Ab.K.awp; first | (apply Xg.s; constructor)) | (apply Ab.K.at_; exact at_) | (apply Ab.K.acall; first | assumption | fail) | (apply Ab.Rg.mk; omega) | (apply Ab.Lt.mk; first | decide | (simp; done) | (simp; omega) | fail) | (apply Ab.Get.mk; first | rfl | first | exact gU | (rw [Nat.mul_one]; exact gU)) | (apply Ab.Nm.mk; first | exact nrm_) | (apply Xg.s; constructor) | (apply Ab.asm; assumption) | rfl | infer_instance | decide))
  all_goals ((first | apply RetQ.ret | apply RetQ.normal); (case he => exact evr_); (case hg => rfl))
  all_goals first | rfl | exact Keeps.fr F (plR.nm rfl)
set_option maxHeartbeats 4000000 in
theorem way11_yes {s : AHeap} {A : Option Addr} {n c : Nat} {on : Option Nat} {l : List E} {a b : Int} {p : List Int} {o : Nat} (h : EA s (.slice A n c) on l) (hn : n ≤ 512) (hok : wOk l a b = true) (hw : TP.Way l a b p) (ho : s o = none) :
    ACall Try.prog 11 [.slice A n c, .int .i64 a, .int .i64 b] s (.tuple #[.slice (some ⟨o, 0, none⟩) p.length p.length, .int .i64 0]) (s.set o (.cells true 1 (ints p))) := by
  obtain ⟨hg, hf, ha, hb⟩ := wOk_iff.1 hok
  have c28 := forest28 h hn
  have na : ACall Try.prog 29 [.int .i64 a] s (.bool (decide (TP.Node a))) s := node29
  have nb : ACall Try.prog 29 [.int .i64 b] s (.bool (decide (TP.Node b))) s := node29
  rw [show gfB l = true from by simp [gfB, hg, foB_iff.2 hf]] at c28
  rw [decide_eq_true ha] at na
  rw [decide_eq_true hb] at nb
  have c30 := ups30 h hg hb hn
  have ha' : 1 ≤ a ∧ a ≤ 64 := ha
  have hcut := hf.cut hg.2.nodup
  have hnodes := hw.nodes (Good.node hg) ha
  have hp64 := hw.short (Good.node hg) ha
  refine ACall.make Try.func11 rfl (by kernel_rfl) (by decide) rfl (fun N hN => ?_)
  have hT : Top N s := hN

  (repeat' (first | (apply Ab.K.ev; exact ev_) | (apply Ab.K.aops; first | (apply Xg.s; constructor) | (apply Ab.S.guardU; (case hd => rfl); (case hb => (exact ev_; done))) | apply Ab.S.guardG) | (apply Ab.K.aop; first | (apply Ab.O.callFE; (case ha => exact evs_); (case hc => exact c30)) | (apply Og.s; constructor)) | (apply Ab.K.gk; first | (apply Xg.s; constructor) | (apply Ab.gY; case hw => assumption) | (apply Ab.gNT; case hw => assumption) | (apply Ab.gNF; case hw => assumption) | ((first | apply Ab.gD | apply Ab.gDN); all_goals (intro _ _; (first | contradiction | (exfalso; omega) | skip)))) | (apply Ab.K.awp; first | (apply Xg.s; constructor)) | (apply Ab.K.at_; exact at_) | (apply Ab.K.acall; first | assumption | first | exact c28 | exact na | exact nb) | (apply Ab.Rg.mk; omega) | (apply Ab.Lt.mk; first | decide | (simp; done) | (simp; omega) | fail) | (apply Ab.Get.mk; first | rfl | first | exact gU | (rw [Nat.mul_one]; exact gU)) | (apply Ab.Nm.mk; first | exact nrm_) | (apply Xg.s; constructor) | (apply Ab.asm; assumption) | rfl | infer_instance | decide))
  rintro v s2 ⟨U, Q, u, rfl, hu, rfl, B⟩
  clear c28 c30 na nb
  have hinU : JP.In U a := ⟨by omega, by rw [B.len]; omega⟩
  have gU := ints_at hinU
  have haQ : a ∈ Q := (B.done).2 hw.conn.symm
  have hz : JP.g U a ≠ 0 := (B.mem a (by omega) (by omega)).2 haQ
  obtain ⟨k0, hk0⟩ := List.mem_iff_getElem?.1 haQ
  obtain ⟨p', hup, hw', _⟩ := B.ups hk0
  obtain rfl : p' = p := hw.uniq hcut hw'
  obtain ⟨M0, hM0, hM1⟩ : ∃ M0, N ≤ M0 ∧ u < M0 := ⟨max N (u + 1), by omega, by omega⟩
  have T0 : Top M0 (s.set u (.cells true 1 (ints U))) := (hT.mono hM0).set hM1
  have F0 : Fr (s.set u (.cells true 1 (ints U))) s [] := Fr.new (free_of hu) (Fr.refl _ _)
  have hp0 := hw'.first
  have hpl : 1 ≤ p'.length := by obtain ⟨t, ht⟩ := hw'.head; rw [ht]; simp

  (repeat' (first | (apply Ab.K.ev; exact ev_) | (apply Ab.K.aops; first | (apply Xg.s; constructor) | (apply Ab.S.guardU; (case hd => rfl); (case hb => (exact ev_; done))) | apply Ab.S.guardG) | (apply Ab.K.aop; first | (apply Ab.O.build1 M0; (case hx => exact ev_); (case hv => exact ⟨rfl, rfl⟩); (case hz => exact ⟨rfl, rfl⟩); (case hid => exact T0.free (Nat.le_refl _))) | (apply Og.s; constructor)) | (apply Ab.K.gk; first | (apply Xg.s; constructor) | (apply Ab.gY; case hw => assumption) | (apply Ab.gNT; case hw => assumption) | (apply Ab.gNF; case hw => assumption) | ((first | apply Ab.gD | apply Ab.gDN); all_goals (intro _ _; (first | contradiction | (exfalso; omega) | skip)))) | (apply Ab.K.awp; first | (apply Xg.s; constructor)) | (apply Ab.K.at_; exact at_) | (apply Ab.K.acall; first | assumption | fail) | (apply Ab.Rg.mk; omega) | (apply Ab.Lt.mk; first | decide | (simp; done) | (simp; omega) | fail) | (apply Ab.Get.mk; first | rfl | first | exact gU | (rw [Nat.mul_one]; exact gU)) | (apply Ab.Nm.mk; first | exact nrm_) | (apply Xg.s; constructor) | (apply Ab.asm; assumption) | rfl | infer_instance | decide))
  refine AWp.loop (fun kk tm s1 => ∃ (k q M : Nat) (x : Int), Ev tm (.tmp 1) (.int .i64 x) ∧ Ev tm (.tmp 2) (.int .i64 b) ∧ Ev tm (.tmp 8) (.slice (some ⟨u, 0, none⟩) 65 65) ∧ Ev tm (.tmp 9) (.slice (some ⟨q, 0, none⟩) (k + 1) (k + 1)) ∧ At s1 u (.cells true 1 (ints U)) ∧ At s1 q (.cells true 1 (ints (p'.take (k + 1)))) ∧ p'[k]? = some x ∧ Fr s1 s [] ∧ u ≠ q ∧ M0 ≤ q ∧ Top M s1 ∧ kk = p'.length - k) p'.length ?_ ?_
  · refine ⟨0, M0, M0 + 1, a, by exact ev_, by exact ev_, by exact ev_, by exact ev_, At.miss (by omega) At.hit, ?_, hp0, Fr.new (hT.free hM0) F0, by omega, Nat.le_refl _, T0.new, rfl⟩
    rw [ints_take hp0]; exact At.hit
  rintro kk tm s1 ⟨k, q, M, x, e1, e2, e8, e9, a8, a9, hx, F, huq, hq, T, hkk⟩
  have huM := T.lt a8
  have hqM := T.lt a9
  have hkl := (List.getElem?_eq_some_iff.1 hx).1
  have hcl : (ints (p'.take (k + 1))).length = k + 1 := by rw [ints_length, List.length_take]; omega
  rcases ups_next hup hx with ⟨rfl, hlast⟩ | ⟨hne, hnext⟩
  · rw [hlast, List.take_length] at a9
    rw [hlast] at e9
    (repeat' (first | (apply Ab.K.ev; exact ev_) | (apply Ab.K.aops; first | (apply Xg.s; constructor) | (apply Ab.S.guardU; (case hd => rfl); (case hb => (exact ev_; done))) | apply Ab.S.guardG) | (apply Ab.K.aop; first | (apply Og.s; constructor)) | (apply Ab.K.gk; first | (apply Xg.s; constructor) | (apply Ab.gY; case hw => assumption) | (apply Ab.gNT; case hw => assumption) | (apply Ab.gNF; case hw => assumption) | ((first | apply Ab.gD | apply Ab.gDN); all_goals (intro _ _; (first | contradiction | (exfalso; omega) | skip)))) | (apply Ab.K.awp; first | (apply Xg.s; constructor)) | (apply Ab.K.at_; exact at_) | (apply Ab.K.acall; first | assumption | fail) | (apply Ab.Rg.mk; omega) | (apply Ab.Lt.mk; first | decide | (simp; done) | (simp; omega) | fail) | (apply Ab.Get.mk; first | rfl | first | exact gU | (rw [Nat.mul_one]; exact gU)) | (apply Ab.Nm.mk; first | exact nrm_) | (apply Xg.s; constructor) | (apply Ab.asm; assumption) | rfl | infer_instance | decide))
    apply RetQ.retR (renL (dn [(o, q, .cells true 1 (ints p'))]))
    (case he => exact evr_)
    (case hg => rfl)
    · simp [resV, mpR, mpB, mp1, mpA, renL_hit]
    · exact KeepsR.new1 ho (hT.none (by omega)) F a9 (ints_pl _) (by simp [nmR, nmB, nm1, nmA])
    · simp
  · have hxn : 1 ≤ x ∧ x ≤ 64 := hnodes x (List.mem_of_getElem? hx)
    have gx := ints_at (l := U) (i := x) ⟨by omega, by rw [B.len]; omega⟩


    (repeat' (first | (apply Ab.K.ev; exact ev_) | (apply Ab.K.aops; first | (apply Xg.s; constructor) | (apply Ab.S.guardU; (case hd => rfl); (case hb => (exact ev_; done))) | apply Ab.S.guardG) | (apply Ab.K.aop; first | (apply Ab.O.build1 (M); (case hx => exact ev_); (case hv => exact ⟨rfl, rfl⟩); (case hz => exact ⟨rfl, rfl⟩); (case hid => exact free_)) | (apply Og.s; constructor)) | (apply Ab.K.gk; first | (apply Xg.s; constructor) | (apply Ab.gY; case hw => assumption) | (apply Ab.gNT; case hw => assumption) | (apply Ab.gNF; case hw => assumption) | ((first | apply Ab.gD | apply Ab.gDN); all_goals (intro _ _; (first | contradiction | (exfalso; omega) | skip)))) | (apply Ab.K.awp; first | (apply Xg.s; constructor)) | (apply Ab.K.at_; exact at_) | (apply Ab.K.acall; first | assumption | fail) | (apply Ab.Rg.mk; omega) | (apply Ab.Lt.mk; first | decide | (simp; done) | (simp; omega) | fail) | (apply Ab.Get.mk; first | rfl | first | exact gx | (rw [Nat.mul_one]; exact gx)) | (apply Ab.Nm.mk; first | exact nrm_) | (apply Xg.s; constructor) | (apply Ab.asm; assumption) | rfl | infer_instance | decide))
    (apply Ab.O.appendL (M + 1); (case hx => exact ev_); (case hL => first | exact LAt.nil | exact LAt.blk (by exact at_) (by first | rfl | exact hcl | (rw [Nat.mul_one]; exact hcl) | simp [ints_length])); (case hy => exact ev_); (case hs => first | exact Src.sl (by exact at_) (by decide) (by decide) rfl | exact srcAll (by exact at_) (by first | rfl | exact hcl | (rw [Nat.mul_one]; exact hcl) | simp [ints_length])); (case hk => rfl); (case hm => decide); (case hl => first | rfl | first | rfl | exact hcl | (rw [Nat.mul_one]; exact hcl) | simp [ints_length]); (case hz => decide); (case hb => omega); (case hfree => exact free_))
    intro s3 g
    have out : ∀ j, j < M → q ≠ j → s3 j = s1 j := fun j hj hne => by rw [g.off _ (fun e => hne (Option.some.inj e)) (by omega), AHeap.set_other _ _ (by omega)]
    have T2 := g.topN T.new (fun q' e => by have := Option.some.inj e; omega)
    have F2 := g.fr (Fr.new (free_of (none_of T F _ (Nat.le_refl _))) F) (fun q' e => .inl (hT.none (by have := Option.some.inj e; omega)))
    have a8' : At s3 u (.cells true 1 (ints U)) := At.var (by rw [out _ huM (fun e => huq e.symm)]; exact a8.eq)
    have gh := g.hit
    rw [← ints_take hnext] at gh
    (repeat' (first | (apply Ab.K.ev; exact ev_) | (apply Ab.K.aops; first | (apply Xg.s; constructor) | (apply Ab.S.guardU; (case hd => rfl); (case hb => (exact ev_; done))) | apply Ab.S.guardG) | (apply Ab.K.aop; first | (apply Og.s; constructor)) | (apply Ab.K.gk; first | (apply Xg.s; constructor) | (apply Ab.gY; case hw => assumption) | (apply Ab.gNT; case hw => assumption) | (apply Ab.gNF; case hw => assumption) | ((first | apply Ab.gD | apply Ab.gDN); all_goals (intro _ _; (first | contradiction | (exfalso; omega) | skip)))) | (apply Ab.K.awp; first | (apply Xg.s; constructor)) | (apply Ab.K.at_; exact at_) | (apply Ab.K.acall; first | assumption | fail) | (apply Ab.Rg.mk; omega) | (apply Ab.Lt.mk; first | decide | (simp; done) | (simp; omega) | fail) | (apply Ab.Get.mk; first | rfl | first | exact gx | (rw [Nat.mul_one]; exact gx)) | (apply Ab.Nm.mk; first | exact nrm_) | (apply Xg.s; constructor) | (apply Ab.asm; assumption) | rfl | infer_instance | decide))
    exact X.roundN (p'.length - (k + 1)) (by omega) ⟨k + 1, M + 1, M + 2, JP.g U x, by exact ev_, by exact ev_, by exact ev_, by exact ev_, a8', gh, hnext, F2, by omega, by omega, T2, rfl⟩
end Go.Proofs.Ytnbgeodignljfaa
