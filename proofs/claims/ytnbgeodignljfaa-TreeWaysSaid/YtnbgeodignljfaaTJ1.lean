/- trees: join, has and top (written by gen_tj.py from c06). -/
import Derived.Test.YtnbgeodignljfaaTB
import Derived.Test.YtnbgeodignljfaaJoinInv
namespace Go.Proofs.Ytnbgeodignljfaa
set_option linter.unusedVariables false
set_option linter.unusedSimpArgs false
set_option linter.unusedSectionVars false
open Go.RowKit Ab JP
attribute [local irreducible] AOps AOpsD AOp AWp put nargs AHeap.set At Free ACall thenQ blockQ roundQ RetQ Src
theorem has_spec {s : AHeap} {j : Nat} {A : Option Addr} {n c : Nat} {rest : List Value} {sz : Nat} (hj : At s j (.cells true sz (.slice A n c :: rest))) (a : Int) :
    ACall Try.prog 52 [.pointer (some ⟨j, 0, none⟩), .int .i64 a] s (.bool (decide (1 ≤ a ∧ a < n))) s := by
  refine ACall.make Try.func52 rfl (by kernel_rfl) (by decide) rfl (fun N hN => ?_)
  (repeat' (first | (apply Ab.K.ev; exact ev_) | (apply Ab.K.aops; first | (apply Xg.s; constructor) | apply Ab.S.guardG) | (apply Ab.K.aop; first | (apply Og.s; constructor)) | (apply Ab.K.gk; first | (apply Xg.s; constructor) | (apply Ab.gY; case hw => assumption) | (apply Ab.gNT; case hw => assumption) | (apply Ab.gNF; case hw => assumption) | ((first | apply Ab.gD | apply Ab.gDN); all_goals (intro _ _; (first | contradiction | (exfalso; omega) | skip)))) | (apply Ab.K.awp; first | (apply Xg.s; constructor)) | (apply Ab.K.at_; exact at_) | (apply Ab.K.acall; first | assumption | fail) | (apply Ab.Rg.mk; omega) | (apply Ab.Lt.mk; first | decide | (simp; done) | (simp; omega) | fail) | (apply Ab.Get.mk; first | rfl | fail) | (apply Ab.Nm.mk; first | exact nrm_) | (apply Xg.s; constructor) | (apply Ab.asm; assumption) | rfl | infer_instance | decide))
  all_goals ((first | apply RetQ.ret | apply RetQ.normal); (case he => exact evr_); (case hg => rfl))
  all_goals first | exact Keeps.self trivial | (simp only [resV]; congr 1; simp; omega)

theorem ints_at {l : List Int} {i : Int} (h : JP.In l i) : (ints l)[i.toNat]? = some (.int .i64 (JP.g l i)) := by
  have : i.toNat < l.length := by have := h.1; have := h.2; omega
  simp [ints, JP.g, List.getD, this]
theorem ints_set (l : List Int) (i : Nat) (v : Int) : (ints l).set i (.int .i64 v) = ints (l.set i v) := by simp [ints]
theorem set_self {s : AHeap} {i : Nat} {b : ABlk} (h : s i = some b) : s.set i b = s := by
  funext k; by_cases e : k = i
  · subst e; rw [AHeap.set_same, h]
  · rw [AHeap.set_other _ _ e]

theorem top_spec {m : Int → Nat} {s : AHeap} {j u : Nat} {c : Nat} {rest : List Value} {sz : Nat} {U : List Int} {a : Int} (hw : Wf m U) (ha : In U a) (hju : j ≠ u)
    (hj : At s j (.cells true sz (.slice (some ⟨u, 0, none⟩) U.length c :: rest))) (hu : At s u (.cells true 1 (ints U))) :
    ACall Try.prog 53 [.pointer (some ⟨j, 0, none⟩), .int .i64 a] s (.int .i64 (topS (m a) U a).2) (s.set u (.cells true 1 (ints (topS (m a) U a).1))) := by
  refine ACall.make Try.func53 rfl (by kernel_rfl) (by decide) rfl (fun N hN => ?_)
  (repeat' (first | (apply Ab.K.ev; exact ev_) | (apply Ab.K.aops; first | (apply Xg.s; constructor) | apply Ab.S.guardG) | (apply Ab.K.aop; first | (apply Og.s; constructor)) | (apply Ab.K.gk; first | (apply Xg.s; constructor) | (apply Ab.gY; case hw => assumption) | (apply Ab.gNT; case hw => assumption) | (apply Ab.gNF; case hw => assumption) | ((first | apply Ab.gD | apply Ab.gDN); all_goals (intro _ _; (first | contradiction | (exfalso; omega) | skip)))) | (apply Ab.K.awp; first | (apply Xg.s; constructor)) | (apply Ab.K.at_; exact at_) | (apply Ab.K.acall; first | assumption | fail) | (apply Ab.Rg.mk; omega) | (apply Ab.Lt.mk; first | decide | (simp; done) | (simp; omega) | fail) | (apply Ab.Get.mk; first | rfl | fail) | (apply Ab.Nm.mk; first | exact nrm_) | (apply Xg.s; constructor) | (apply Ab.asm; assumption) | rfl | infer_instance | decide))
  refine AWp.loop (fun k tm s1 => ∃ U1 a1, Ev tm (.tmp 0) (.pointer (some ⟨j, 0, none⟩)) ∧ Ev tm (.tmp 1) (.int .i64 a1) ∧ s1 = s.set u (.cells true 1 (ints U1)) ∧ Wf m U1 ∧ In U1 a1 ∧ U1.length = U.length ∧ m a1 ≤ k ∧ topS (m a1) U1 a1 = topS (m a) U a) (m a) ?_ ?_
  · refine ⟨U, a, ?_, ?_, (set_self hu.eq).symm, hw, ha, rfl, Nat.le_refl _, rfl⟩ <;> exact ev_
  · rintro k tm s1 ⟨U1, a1, h0, h1, rfl, hw1, ha1, hl1, hk, he⟩
    have hj1 : (s.set u (.cells true 1 (ints U1))) j = some (.cells true sz (.slice (some ⟨u, 0, none⟩) U1.length c :: rest)) := by rw [AHeap.set_other _ _ hju, hj.eq, hl1]
    have hu1 : (s.set u (.cells true 1 (ints U1))) u = some (.cells true 1 (ints U1)) := AHeap.set_same _ _ _
    have hb := ha1.1
    have hb2 := ha1.2
    have ha2 := (hw1 a1 ha1).1
    have hb3 := ha2.1
    have hb4 := ha2.2


    (repeat' (first | (apply Ab.K.ev; exact ev_) | (apply Ab.K.aops; first | (apply Xg.s; constructor) | apply Ab.S.guardG) | (apply Ab.K.aop; first | (apply Og.s; constructor)) | (apply Ab.K.gk; first | (apply Xg.s; constructor) | (apply Ab.gY; case hw => assumption) | (apply Ab.gNT; case hw => assumption) | (apply Ab.gNF; case hw => assumption) | ((first | apply Ab.gD | apply Ab.gDN); all_goals (intro _ _; (first | contradiction | (exfalso; omega) | skip)))) | (apply Ab.K.aopsD; first | (apply Ab.D.q0t; (case hw => rfl); (case hot => rfl)) | (apply Ab.D.w1t; (case hw => rfl); (case hot => rfl)) | (apply Ab.D.q0; (case hw => rfl); intro _ _) | (apply Ab.D.w1n; (case hw => rfl); intro _ _) | (apply Ab.D.w2n; (case hw => rfl); intro _ _) | (apply Xg.s; constructor) | fail | apply Ab.D.guardG) | exact ⟨rfl, rfl⟩ | (apply Ab.K.awp; first | (apply AWp.draw (id := 2) [[], [0], [0, 1], [0, 1, 2], [], [], [5], [5, 6], [5, 6, 7], [], [9], [9, 10], [9, 10, 11], [], [9, 10, 11, 12, 13], [9, 10, 11, 12, 13, 14], [5, 6, 7, 8, 9, 10, 11, 12, 13, 14, 15], [5, 6, 7, 8, 9, 10, 11, 12, 13, 14, 15, 16], [0, 1, 2, 3, 4, 5, 6, 7, 8, 9, 10, 11, 12, 13, 14, 15, 16, 17], [0, 1, 2, 3, 4, 5, 6, 7, 8, 9, 10, 11, 12, 13, 14, 15, 16, 17, 18]] [(19, [u])] (by kernel_rfl) (by kernel_rfl) (by simp [apartW, unordB, cC] <;> omega)) | (apply Xg.s; constructor)) | (apply Ab.K.at_; exact at_) | (apply Ab.K.acall; first | assumption | fail) | (apply Ab.Rg.mk; omega) | (apply Ab.Lt.mk; first | decide | (simp; done) | (simp; omega) | rw [ints_length]; omega) | (apply Ab.Get.mk; first | rfl | (first | exact ints_at (by assumption) | (rw [ints_set]; exact ints_at (In.set (by assumption))))) | (apply Ab.Nm.mk; first | exact nrm_) | (apply Xg.s; constructor) | (apply Ab.asm; assumption) | rfl | infer_instance | decide))
    · rename_i hne
      obtain ⟨w1, w2, w3, w4, w5⟩ := half_spec hw1 ha1 hne
      have e1 : g (half U1 a1) a1 = g U1 (g U1 a1) := g_set_same ha1
      refine X.roundN (m (g U1 (g U1 a1))) (by omega) ⟨half U1 a1, g U1 (g U1 a1), by exact ev_, ?_, by rw [AHeap.set_set, ints_set]; rfl, w1, by simpa [In, half] using w5, by rw [w2, hl1], Nat.le_refl _, ?_⟩
      · refine Eq.mp (congrArg (fun z => Ev _ (.tmp 1) (.int .i64 z)) e1) ?_; exact ev_
      · rw [← he]
        cases hm : m a1 with
        | zero => omega
        | succ q =>
          simp only [topS, if_neg hne]
          exact topS_more _ _ w1 (by simpa [In, half] using w5) (Nat.le_refl _) (by omega)
    · rename_i hne
      have hr : topS (m a1) U1 a1 = (U1, a1) := by cases m a1 <;> simp [topS, Decidable.not_not.1 hne]
      rw [hr] at he
      ((first | apply RetQ.ret | apply RetQ.normal); (case he => exact evr_); (case hg => rfl))
      · rw [← he]; rfl
      · rw [← he]
        refine Keeps.one hu.eq (AHeap.set_same _ _ _) (fun i hi c hc => by rw [AHeap.set_other _ _ hi]; exact hc) ?_ trivial
        intro x hx
        obtain ⟨y, _, rfl⟩ := List.mem_map.1 hx
        trivial

theorem has_yes {s : AHeap} {j : Nat} {A : Option Addr} {n c : Nat} {rest : List Value} {sz : Nat} (hj : At s j (.cells true sz (.slice A n c :: rest))) {a : Int} (h : 1 ≤ a ∧ a < n) :
    ACall Try.prog 52 [.pointer (some ⟨j, 0, none⟩), .int .i64 a] s (.bool true) s := by have := has_spec hj a; rwa [decide_eq_true h] at this
theorem has_no {s : AHeap} {j : Nat} {A : Option Addr} {n c : Nat} {rest : List Value} {sz : Nat} (hj : At s j (.cells true sz (.slice A n c :: rest))) {a : Int} (h : ¬ (1 ≤ a ∧ a < n)) :
    ACall Try.prog 52 [.pointer (some ⟨j, 0, none⟩), .int .i64 a] s (.bool false) s := by have := has_spec hj a; rwa [decide_eq_false h] at this
end Go.Proofs.Ytnbgeodignljfaa
