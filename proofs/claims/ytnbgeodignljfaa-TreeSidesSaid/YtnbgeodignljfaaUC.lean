/- trees: the program's list of the linked. -/
import Derived.Test.YtnbgeodignljfaaTM
import Derived.Test.YtnbgeodignljfaaAbG
namespace Go.Proofs.Ytnbgeodignljfaa
set_option linter.unusedVariables false
set_option linter.unusedSimpArgs false
set_option linter.unusedSectionVars false
open Go.RowKit Ab TP
attribute [local irreducible] AOps AOpsD AOp AWp put nargs AHeap.set At Free ACall ACallE thenQ blockQ roundQ RetQ RetE Src bsn Gr
set_option maxHeartbeats 4000000 in
theorem linked34 {s : AHeap} {A : Option Addr} {n c : Nat} {on : Option Nat} {l : List E} {a : Int} {o : Nat} (h : EA s (.slice A n c) on l) (hg : TP.Good l) (ha : TP.Node a) (hn : n ≤ 512) (ho : s o = none) :
    ACall Try.prog 34 [.slice A n c, .int .i64 a] s (.slice (some ⟨o, 0, none⟩) (side l a).length (side l a).length) (s.set o (.cells true 1 (ints (side l a)))) := by
  have c30 := ups30 h hg ha hn
  refine ACall.make Try.func34 rfl (by kernel_rfl) (by decide) rfl (fun N hN => ?_)
  have hT : Top N s := hN
  (repeat' (first | (apply Ab.K.ev; exact ev_) | (apply Ab.K.aops; first | (apply Xg.s; constructor) | (apply Ab.S.guardU; (case hd => rfl); (case hb => (exact ev_; done))) | apply Ab.S.guardG) | (apply Ab.K.aop; first | (apply Ab.O.callFE; (case ha => exact evs_); (case hc => exact c30)) | (apply Og.s; constructor)) | (apply Ab.K.gk; first | (apply Xg.s; constructor) | (apply Ab.gY; case hw => assumption) | (apply Ab.gNT; case hw => assumption) | (apply Ab.gNF; case hw => assumption) | ((first | apply Ab.gD | apply Ab.gDN); all_goals (intro _ _; (first | contradiction | (exfalso; omega) | skip)))) | (apply Ab.K.awp; first | (apply Xg.s; constructor)) | (apply Ab.K.at_; exact at_) | (apply Ab.K.acall; first | assumption | fail) | (apply Ab.Rg.mk; omega) | (apply Ab.Lt.mk; first | decide | (simp; done) | (simp; omega) | fail) | (apply Ab.Get.mk; first | rfl | fail) | (apply Ab.Nm.mk; first | exact nrm_) | (apply Xg.s; constructor) | (apply Ab.asm; assumption) | rfl | infer_instance | decide))
  rintro v s2 ⟨U, Q, u, rfl, hu, rfl, B⟩
  clear c30
  obtain ⟨M0, hM0⟩ : ∃ M0, M0 = max N (u + 1) := ⟨_, rfl⟩
  have T0 : Top M0 (s.set u (.cells true 1 (ints U))) := (hT.mono (by omega)).set (by omega)
  have F0 : Fr (s.set u (.cells true 1 (ints U))) s [] := Fr.new (free_of hu) (Fr.refl _ _)
  have hz0 : JP.g U 0 = 0 := by
    by_cases h0 : JP.g U 0 = 0
    · exact h0
    · have := B.node 0 ((B.mem 0 (by omega) (by omega)).1 h0); exact absurd this.1 (by omega)
  have hU := B.len
  (repeat' (first | (apply Ab.K.ev; exact ev_) | (apply Ab.K.aops; first | (apply Xg.s; constructor) | (apply Ab.S.guardU; (case hd => rfl); (case hb => (exact ev_; done))) | apply Ab.S.guardG) | (apply Ab.K.aop; first | (apply Og.s; constructor)) | (apply Ab.K.gk; first | (apply Xg.s; constructor) | (apply Ab.gY; case hw => assumption) | (apply Ab.gNT; case hw => assumption) | (apply Ab.gNF; case hw => assumption) | ((first | apply Ab.gD | apply Ab.gDN); all_goals (intro _ _; (first | contradiction | (exfalso; omega) | skip)))) | (apply Ab.K.awp; first | (apply Xg.s; constructor)) | (apply Ab.K.at_; exact at_) | (apply Ab.K.acall; first | assumption | fail) | (apply Ab.Rg.mk; omega) | (apply Ab.Lt.mk; first | decide | (simp; done) | (simp; omega) | fail) | (apply Ab.Get.mk; first | rfl | fail) | (apply Ab.Nm.mk; first | exact nrm_) | (apply Xg.s; constructor) | (apply Ab.asm; assumption) | rfl | infer_instance | decide))
  refine AWp.loop (fun kk tm s1 => ∃ (i k M : Nat) (v : Value) (on : Option Nat) (r : List Int), Ev tm (.tmp 5) v ∧ Ev tm (.tmp 10) (.slice (some ⟨u, 0, none⟩) 65 65) ∧ Ev tm (.tmp 11) (.int .i64 (65 : Nat)) ∧ Ev tm (.tmp 12) (.int .i64 i) ∧ At s1 u (.cells true 1 (ints U)) ∧ Gr s1 1 M0 v on k (ints r) ∧ k = r.length ∧ r = lkN (reachB l a) (i - 1) ∧ Fr s1 s [] ∧ Top M s1 ∧ M0 ≤ M ∧ i ≤ 65 ∧ kk = 65 - i) 65 ?_ ?_
  · exact ⟨0, 0, M0, _, _, [], by exact ev_, by exact ev_, by exact ev_, by exact ev_, by exact at_, Gr.nil, rfl, rfl, F0, T0, Nat.le_refl _, by omega, rfl⟩
  clear T0 F0
  rintro kk tm s1 ⟨i, k, M, v, on, r, e5, e10, e11, e12, au, G, hk, hr, F, T, hMM, hi, hkk⟩
  have hlt := G.lt T
  have hge := G.from_
  have huM := T.lt au
  have hlen := lkN_len (f := reachB l a) (k := i - 1)
  rw [← hr] at hlen
  by_cases hin : i < 65
  · have gU := ints_at (l := U) (i := (i : Int)) ⟨by omega, by rw [B.len]; omega⟩
    rw [Int.toNat_natCast] at gU
    by_cases hz : JP.g U i = 0
    · have hr1 : r = lkN (reachB l a) (i + 1 - 1) := by
        cases i with
        | zero => exact hr
        | succ j =>
          have hb : reachB l a (j + 1) = false := by
            rw [← B.reach ha (i := j + 1) (by omega)]; simp; exact hz
          rw [hr]; show lkN _ j = lkN _ (j + 1)
          rw [lkN, if_neg (by rw [hb]; decide), List.append_nil]
      rw [hz] at gU
      (repeat' (first | (apply Ab.K.ev; exact ev_) | (apply Ab.K.aops; first | (apply Xg.s; constructor) | (apply Ab.S.guardU; (case hd => rfl); (case hb => (exact ev_; done))) | apply Ab.S.guardG) | (apply Ab.K.aop; first | (apply Og.s; constructor)) | (apply Ab.K.gk; first | (apply Xg.s; constructor) | (apply Ab.gY; case hw => assumption) | (apply Ab.gNT; case hw => assumption) | (apply Ab.gNF; case hw => assumption) | ((first | apply Ab.gD | apply Ab.gDN); all_goals (intro _ _; (first | contradiction | (exfalso; omega) | skip)))) | (apply Ab.K.awp; first | (apply Xg.s; constructor)) | (apply Ab.K.at_; exact at_) | (apply Ab.K.acall; first | assumption | fail) | (apply Ab.Rg.mk; omega) | (apply Ab.Lt.mk; first | decide | (simp; done) | (simp; omega) | fail) | (apply Ab.Get.mk; first | rfl | (rw [Int.toNat_natCast]; exact gU)) | (apply Ab.Nm.mk; first | exact nrm_) | (apply Xg.s; constructor) | (apply Ab.asm; assumption) | rfl | infer_instance | decide))
      exact X.roundN (65 - (i + 1)) (by omega) ⟨i + 1, k, M, v, on, r, by exact ev_, by exact ev_, by exact ev_, by exact ev_, au, G, hk, hr1, F, T, hMM, by omega, rfl⟩
    · have hr1 : r ++ [(i : Int)] = lkN (reachB l a) (i + 1 - 1) := by
        cases i with
        | zero => exact absurd hz0 hz
        | succ j =>
          have hb : reachB l a (j + 1) = true := by
            rw [← B.reach ha (i := j + 1) (by omega)]; simpa using hz
          rw [hr]; show lkN _ j ++ _ = lkN _ (j + 1)
          rw [lkN, if_pos hb]
      (repeat' (first | (apply Ab.K.ev; exact ev_) | (apply Ab.K.aops; first | (apply Xg.s; constructor) | (apply Ab.S.guardU; (case hd => rfl); (case hb => (exact ev_; done))) | apply Ab.S.guardG) | (apply Ab.K.aop; first | (apply Ab.O.build1 (M); (case hx => exact ev_); (case hv => exact ⟨rfl, rfl⟩); (case hz => exact ⟨rfl, rfl⟩); (case hid => exact free_)) | (apply Og.s; constructor)) | (apply Ab.K.gk; first | (apply Xg.s; constructor) | (apply Ab.gY; case hw => assumption) | (apply Ab.gNT; case hw => assumption) | (apply Ab.gNF; case hw => assumption) | ((first | apply Ab.gD | apply Ab.gDN); all_goals (intro _ _; (first | contradiction | (exfalso; omega) | skip)))) | (apply Ab.K.awp; first | (apply Xg.s; constructor)) | (apply Ab.K.at_; exact at_) | (apply Ab.K.acall; first | assumption | fail) | (apply Ab.Rg.mk; omega) | (apply Ab.Lt.mk; first | decide | (simp; done) | (simp; omega) | fail) | (apply Ab.Get.mk; first | rfl | (rw [Int.toNat_natCast]; exact gU)) | (apply Ab.Nm.mk; first | exact nrm_) | (apply Xg.s; constructor) | (apply Ab.asm; assumption) | rfl | infer_instance | decide))
      have G1 := G.set (id := M) (b := .cells true 1 [.int .i64 i]) (fun q e => by have := hlt q e; omega)
      (apply Ab.O.appendL (M + 1); (case hx => exact ev_); (case hL => exact Ab.Gr.lat (by assumption)); (case hy => exact ev_); (case hs => exact srcAll At.hit rfl); (case hk => rfl); (case hm => decide); (case hl => first | rfl | simp); (case hz => decide); (case hb => omega); (case hfree => exact free_))
      intro s3 g
      have T2 := G1.topN g T.new
      have F2 := G1.frN g (Fr.new (hT.free (by omega)) F) (hT.mono (by omega))
      have au' := Gr.off g (At.miss (by omega) au) (fun q e => by have := hge q e; omega) (by omega)
      rw [show ints r ++ [.int .i64 i] = ints (r ++ [(i : Int)]) from by rw [ints_append]; rfl] at g
      have G2 : Gr s3 1 M0 _ _ (k + 1) _ := Gr.app g (by rw [ints_length, List.length_append, hk, Nat.mul_one]; rfl) (by omega)
      (repeat' (first | (apply Ab.K.ev; exact ev_) | (apply Ab.K.aops; first | (apply Xg.s; constructor) | (apply Ab.S.guardU; (case hd => rfl); (case hb => (exact ev_; done))) | apply Ab.S.guardG) | (apply Ab.K.aop; first | (apply Og.s; constructor)) | (apply Ab.K.gk; first | (apply Xg.s; constructor) | (apply Ab.gY; case hw => assumption) | (apply Ab.gNT; case hw => assumption) | (apply Ab.gNF; case hw => assumption) | ((first | apply Ab.gD | apply Ab.gDN); all_goals (intro _ _; (first | contradiction | (exfalso; omega) | skip)))) | (apply Ab.K.awp; first | (apply Xg.s; constructor)) | (apply Ab.K.at_; exact at_) | (apply Ab.K.acall; first | assumption | fail) | (apply Ab.Rg.mk; omega) | (apply Ab.Lt.mk; first | decide | (simp; done) | (simp; omega) | fail) | (apply Ab.Get.mk; first | rfl | (rw [Int.toNat_natCast]; exact gU)) | (apply Ab.Nm.mk; first | exact nrm_) | (apply Xg.s; constructor) | (apply Ab.asm; assumption) | rfl | infer_instance | decide))
      exact X.roundN (65 - (i + 1)) (by omega) ⟨i + 1, k + 1, M + 2, _, _, r ++ [(i : Int)], by exact ev_, by exact ev_, by exact ev_, by exact ev_, au', G2, by rw [List.length_append, hk]; rfl, hr1, F2, T2, by omega, by omega, rfl⟩
  · obtain rfl : i = 65 := by omega
    have hs : r = side l a := hr
    have hpos : k ≠ 0 := fun e => by
      have hm := (side_mem (Good.node hg) ha (x := a)).2 (.refl a)
      rw [← hs, List.length_eq_zero_iff.1 (hk.symm.trans e)] at hm; cases hm
    obtain ⟨q, rfl, rfl, aq, _, hq⟩ := G.own hpos
    rw [← hs, ← hk]
    (repeat' (first | (apply Ab.K.ev; exact ev_) | (apply Ab.K.aops; first | (apply Xg.s; constructor) | (apply Ab.S.guardU; (case hd => rfl); (case hb => (exact ev_; done))) | apply Ab.S.guardG) | (apply Ab.K.aop; first | (apply Og.s; constructor)) | (apply Ab.K.gk; first | (apply Xg.s; constructor) | (apply Ab.gY; case hw => assumption) | (apply Ab.gNT; case hw => assumption) | (apply Ab.gNF; case hw => assumption) | ((first | apply Ab.gD | apply Ab.gDN); all_goals (intro _ _; (first | contradiction | (exfalso; omega) | skip)))) | (apply Ab.K.awp; first | (apply Xg.s; constructor)) | (apply Ab.K.at_; exact at_) | (apply Ab.K.acall; first | assumption | fail) | (apply Ab.Rg.mk; omega) | (apply Ab.Lt.mk; first | decide | (simp; done) | (simp; omega) | fail) | (apply Ab.Get.mk; first | rfl | (rw [Int.toNat_natCast]; exact gU)) | (apply Ab.Nm.mk; first | exact nrm_) | (apply Xg.s; constructor) | (apply Ab.asm; assumption) | rfl | infer_instance | decide))
    apply RetQ.retR (renL (dn [(o, q, .cells true 1 (ints r))]))
    (case he => exact evr_)
    (case hg => rfl)
    · simp [resV, mpR, mpB, mp1, mpA, renL_hit]
    · exact KeepsR.new1 ho (hT.none (by omega)) F aq (ints_pl _) rfl
    · simp
end Go.Proofs.Ytnbgeodignljfaa
