/- trees: the program's forests. -/
import Derived.Test.YtnbgeodignljfaaTL
import Derived.Test.YtnbgeodignljfaaTJ7
import Derived.Test.YtnbgeodignljfaaTreeJoin
namespace Go.Proofs.Ytnbgeodignljfaa
set_option linter.unusedVariables false
set_option linter.unusedSimpArgs false
set_option linter.unusedSectionVars false
open Go.RowKit Ab TP
theorem JH.ext {J : JN} {s2 s1 s0 : AHeap} {w : List Int} (h : JH J s2 w) (hO : JOff J s2 s1) (hx : Ext s1 s0) : Ext s2 s0 := by
  have a2 := h.at
  have hd : ∀ i, (s1 i).isSome = true → (s2 i).isSome = true := fun i hi => by
    by_cases e1 : i = J.j
    · rw [e1]; exact a2.1
    · by_cases e2 : i = J.u
      · rw [e2]; exact a2.2.1
      · by_cases e3 : i = J.z
        · rw [e3]; exact a2.2.2.1
        · by_cases e4 : i = J.l
          · rw [e4]; exact a2.2.2.2
          · rw [hO i e1 e2 e3 e4]; exact hi
  refine ⟨fun i hi => hd i (hx.dom i hi), fun i b hb => ?_⟩
  obtain ⟨m, U, S, L, k, q, _⟩ := h
  by_cases e1 : i = J.j
  · subst e1
    rw [q.hj.eq] at hb
    obtain rfl := Option.some.inj hb
    refine .inr fun x hx => ?_
    simp only [jCells, List.mem_cons, List.not_mem_nil, or_false] at hx
    rcases hx with rfl | rfl | rfl | rfl
    · exact a2.2.1
    · exact a2.2.2.1
    · exact a2.2.2.2
    · trivial
  · by_cases e2 : i = J.u
    · subst e2; rw [q.hu.eq] at hb; obtain rfl := Option.some.inj hb; exact .inr (nm_scal (ints_pl _))
    · by_cases e3 : i = J.z
      · subst e3; rw [q.hz.eq] at hb; obtain rfl := Option.some.inj hb; exact .inr (nm_scal (ints_pl _))
      · by_cases e4 : i = J.l
        · subst e4; rw [q.hl.eq] at hb; obtain rfl := Option.some.inj hb; exact .inr (nm_scal (ints_pl _))
        · rw [hO i e1 e2 e3 e4] at hb
          exact (hx.cl i b hb).imp id fun e => ABlk.nm_imp (fun k hk => hd k hk) e
attribute [local irreducible] AOps AOpsD AOp AWp put nargs AHeap.set At Free ACall ACallE thenQ blockQ roundQ RetQ RetE Src bsn
theorem sets43 {s s2 : AHeap} {J : JN} (hc : ACall Try.prog 50 [.int .i64 (64 : Nat)] s (.tuple #[jp J, .int .i64 0]) s2) (hx : Ext s2 s) (hj : (s2 J.j).isSome = true) : ACall Try.prog 43 [] s (jp J) s2 := by
  refine ACall.make Try.func43 rfl (by kernel_rfl) (by decide) rfl (fun N hN => ?_)
  (repeat' (first | (apply Ab.K.ev; exact ev_) | (apply Ab.K.aops; first | (apply Xg.s; constructor) | (apply Ab.S.guardU; (case hd => rfl); (case hb => (exact ev_; done))) | apply Ab.S.guardG) | (apply Ab.K.aop; first | (apply Og.s; constructor)) | (apply Ab.K.gk; first | (apply Xg.s; constructor) | (apply Ab.gY; case hw => assumption) | (apply Ab.gNT; case hw => assumption) | (apply Ab.gNF; case hw => assumption) | ((first | apply Ab.gD | apply Ab.gDN); all_goals (intro _ _; (first | contradiction | (exfalso; omega) | skip)))) | (apply Ab.K.awp; first | (apply Xg.s; constructor)) | (apply Ab.K.at_; exact at_) | (apply Ab.K.acall; first | assumption | exact hc) | (apply Ab.Rg.mk; omega) | (apply Ab.Lt.mk; first | decide | (simp; done) | (simp; omega) | fail) | (apply Ab.Get.mk; first | rfl | fail) | (apply Ab.Nm.mk; first | exact nrm_) | (apply Xg.s; constructor) | (apply Ab.asm; assumption) | rfl | infer_instance | decide))
  all_goals ((first | apply RetQ.ret | apply RetQ.normal); (case he => exact evr_); (case hg => rfl))
  all_goals first | rfl | exact Keeps.ext hx hj
/-- The memory of a forest's check under way. -/
def FM (J : JN) (P : Nat) (s0 s s1 : AHeap) : Prop := At s1 P (.cells true 1 [jp J]) ∧ Fr s1 s0 [] ∧ Ext s1 s ∧ ∃ M, Top M s1 ∧ J.j < M ∧ J.u < M ∧ J.z < M ∧ J.l < M ∧ P < M
theorem forest46 {J : JN} {P : Nat} {s0 s s1 : AHeap} {w : List Int} {e : E} (hJ : JH J s1 w) (hw : w.length ≤ 5000) (hM : FM J P s0 s s1) (hP : P ≠ J.j ∧ P ≠ J.u ∧ P ≠ J.z ∧ P ≠ J.l) (hf : J.free s0) :
    ACallE Try.prog 46 (.agg (ec e).toArray :: #[Value.pointer (some ⟨P, 0, none⟩)].toList) s1 (fun v s' => v = .bool (!(JP.runite w e.a e.b).2) ∧ JH J s' (JP.runite w e.a e.b).1 ∧ FM J P s0 s s') := by
  obtain ⟨aP, F, X, M, T, b1, b2, b3, b4, b5⟩ := hM
  refine ACallE.make Try.func46 rfl (by kernel_rfl) (by decide) rfl (fun N hN => ?_)
  clear hN
  have hs : ∀ i, i ≠ M → (s1.set M (.cells true 1 (ec e))) i = s1 i := fun i hi => AHeap.set_other _ _ hi
  have hJ1 : JH J (s1.set M (.cells true 1 (ec e))) w := hJ.off (hs _ (by omega)) (hs _ (by omega)) (hs _ (by omega)) (hs _ (by omega))
  obtain ⟨s2, c47, hJ2, hO⟩ := unite_step hJ1 hw e.a e.b
  have X1 : Ext (s1.set M (.cells true 1 (ec e))) s := X.set (nm_scal (by simp [ec, pl1, plA]))
  have X2 : Ext s2 s := hJ2.ext hO X1
  have X3 : Ext s2 s1 := hJ2.ext hO ((Ext.refl s1).set (nm_scal (by simp [ec, pl1, plA])))
  have F2 : Fr s2 s0 [] := hO.fr hf (Fr.new (free_of (none_of T F M (Nat.le_refl _))) F)
  have T2 : Top (M + 1) s2 := hO.top T.new ⟨by omega, by omega, by omega, by omega⟩
  have aP2 : At s2 P (.cells true 1 [jp J]) := At.var (by rw [hO P hP.1 hP.2.1 hP.2.2.1 hP.2.2.2, hs P (by omega)]; exact aP.eq)
  have hfin : FM J P s0 s s2 := ⟨aP2, F2, X2, M + 1, T2, by omega, by omega, by omega, by omega, by omega⟩

  (repeat' (first | (apply Ab.K.ev; exact ev_) | (apply Ab.K.aops; first | (apply Xg.s; constructor) | (apply Ab.S.guardU; (case hd => rfl); (case hb => (exact ev_; done))) | apply Ab.S.guardG) | (apply Ab.K.aop; first | (apply Ab.O.boxA (l := ec e) M; (case hx => exact ev_); (case hid => exact T.free (Nat.le_refl _))) | (apply Og.s; constructor)) | (apply Ab.K.gk; first | (apply Xg.s; constructor) | (apply Ab.gY; case hw => assumption) | (apply Ab.gNT; case hw => assumption) | (apply Ab.gNF; case hw => assumption) | ((first | apply Ab.gD | apply Ab.gDN); all_goals (intro _ _; (first | contradiction | (exfalso; omega) | skip)))) | (apply Ab.K.awp; first | (apply Xg.s; constructor)) | (apply Ab.K.at_; exact at_) | (apply Ab.K.acall; first | assumption | exact c47) | (apply Ab.Rg.mk; omega) | (apply Ab.Lt.mk; first | decide | (simp; done) | (simp; omega) | fail) | (apply Ab.Get.mk; first | rfl | fail) | (apply Ab.Nm.mk; first | exact nrm_) | (apply Xg.s; constructor) | (apply Ab.asm; assumption) | rfl | infer_instance | decide))

  all_goals ((first | apply RetE.ret | apply RetE.normal); (case he => exact evr_); (case hg => rfl))
  all_goals first | exact ⟨rfl, hJ2, hfin⟩ | exact Keeps.ext X3 (plR.nm rfl)
noncomputable def cB (l : List E) (i : Nat) : Bool := open Classical in decide (∃ e, l[i]? = some e ∧ Conn (l.take i) e.a e.b)
theorem cB_iff {l : List E} {i : Nat} : cB l i = true ↔ ∃ e, l[i]? = some e ∧ Conn (l.take i) e.a e.b := by simp [cB]
theorem forest_of {l : List E} (h : ∀ j, j < l.length → cB l j = false) : Forest l := fun i e hi hc => by
  have := h i (List.getElem?_eq_some_iff.1 hi).1
  rw [cB_iff.2 ⟨e, hi, hc⟩] at this; cases this
theorem forest_not {l : List E} {i : Nat} (h : cB l i = true) : ¬ Forest l := fun hf => by
  obtain ⟨e, he, hc⟩ := cB_iff.1 h
  exact hf i e he hc
theorem cls_start : Cls (start 65) [] where
  ok := (jinv_start 64).wok
  len := start_length 65
  eq x y h1 h2 h3 h4 := by
    rw [g_start ⟨by omega, by rw [start_length]; omega⟩, g_start ⟨by omega, by rw [start_length]; omega⟩]
    exact ⟨fun h => by rw [h]; exact .refl _, fun h => h.nil⟩
theorem contains45f {J : JN} {P : Nat} {s0 s : AHeap} {A : Option Addr} {n c : Nat} {on : Option Nat} {l : List E} (h : EA s0 (.slice A n c) on l) (hg : TP.Good l) (hn : n ≤ 512) (hJ : JH J s (start 65)) (hM : FM J P s0 s s) (hP : P ≠ J.j ∧ P ≠ J.u ∧ P ≠ J.z ∧ P ≠ J.l) (hf : J.free s0) :
    ACallE Try.prog 45 [.slice A n c, .func (.func 46) #[] #[.pointer (some ⟨P, 0, none⟩)]] s (fun v s' => v = .bool (!foB l) ∧ FM J P s0 s s') := by
  have hnl : n = l.length := by obtain ⟨_, _, e⟩ := h.isl; injection e
  refine (contains45 (l := l) (b := cB l) (fun i s1 => FM J P s0 s s1 ∧ ∃ w, JH J s1 w ∧ w.length = 65 ∧ ((∀ j, j < i → cB l j = false) → Cls w (l.take i))) (fun i s1 hI => ⟨on, h.fr hI.1.2.1⟩) (fun i s1 hI => hI.1.2.2.1) (fun i e s1 hi hb hI => ?_) ⟨hM, _, hJ, start_length 65, fun _ => cls_start⟩ hn).mono fun v s' hh => ?_
  · obtain ⟨hM1, w, hJ1, hw, hcl⟩ := hI
    have hC := hcl hb
    have hem := hg.1 e (List.mem_of_getElem? hi)
    have htk : l.take (i + 1) = l.take i ++ [e] := by rw [List.take_add_one, hi]; rfl
    refine (forest46 (e := e) hJ1 (by omega) hM1 hP hf).mono fun v s' hh => ?_
    obtain ⟨rfl, hJ2, hM2⟩ := hh
    rcases hC.step hem.1 hem.2.1 with ⟨h1, h2, h3⟩ | ⟨h1, h3⟩
    · have hcb : cB l i = false := by
        cases hh : cB l i with
        | false => rfl
        | true => obtain ⟨f, hf1, hf2⟩ := cB_iff.1 hh; rw [hi] at hf1; obtain rfl := Option.some.inj hf1; exact absurd hf2 h3
      exact ⟨by rw [h1, hcb]; rfl, hM2, _, hJ2, h2.len, fun _ => by rw [htk]; exact h2⟩
    · have hcb : cB l i = true := cB_iff.2 ⟨e, hi, h3⟩
      have hsame : (JP.runite w e.a e.b).1 = w := by
        unfold JP.runite at h1 ⊢
        split
        · rename_i hc; rw [if_pos hc] at h1; cases h1
        · rfl
      exact ⟨by rw [h1, hcb]; rfl, hM2, _, hJ2, by rw [hsame]; exact hw, fun h => by rw [h i (by omega)] at hcb; cases hcb⟩
  · rcases hh with ⟨i, h1, h2, h3, rfl, hI⟩ | ⟨h1, rfl, hI⟩
    · refine ⟨?_, hI.1⟩
      have : foB l = false := by
        cases hh : foB l with
        | false => rfl
        | true => exact absurd (foB_iff.1 hh) (forest_not h2)
      rw [this]; rfl
    · refine ⟨?_, hI.1⟩
      have : foB l = true := foB_iff.2 (forest_of fun j hj => h1 j (by omega))
      rw [this]; rfl
noncomputable def gfB (l : List E) : Bool := decide (TP.Good l) && foB l
theorem forest28 {s : AHeap} {A : Option Addr} {n c : Nat} {on : Option Nat} {l : List E} (h : EA s (.slice A n c) on l) (hn : n ≤ 512) : ACall Try.prog 28 [.slice A n c] s (.bool (gfB l)) s := by
  refine ACall.make Try.func28 rfl (by kernel_rfl) (by decide) rfl (fun N hN => ?_)
  have hT : Top N s := hN
  obtain ⟨J, hJe⟩ : ∃ J : JN, J = ⟨N, N + 1, N + 2, N + 3, 65, 65, 65⟩ := ⟨_, rfl⟩
  have hf : J.free s := by subst hJe; exact ⟨hT.none (Nat.le_refl _), hT.none (by show N ≤ N + 1; omega), hT.none (by show N ≤ N + 2; omega), hT.none (by show N ≤ N + 3; omega)⟩
  obtain ⟨s2, c50, hJ, hO⟩ := new_step (s := s) (n := 64) (J := J) (by omega) hf (by subst hJe; simp) (by subst hJe; exact ⟨rfl, rfl, rfl⟩)
  have X2 : Ext s2 s := hJ.ext hO (Ext.refl s)
  have c43 := sets43 c50 X2 hJ.at.1
  have jb : J.j = N ∧ J.u = N + 1 ∧ J.z = N + 2 ∧ J.l = N + 3 := by subst hJe; exact ⟨rfl, rfl, rfl, rfl⟩
  obtain ⟨j1, j2, j3, j4⟩ := jb
  have F2 : Fr s2 s [] := hO.fr hf (Fr.refl _ _)
  have T2 : Top (N + 4) s2 := hO.top (hT.mono (by omega)) ⟨by omega, by omega, by omega, by omega⟩
  obtain ⟨s3, hs3⟩ : ∃ s3, s3 = (s2.set (N + 4) (.cells true 1 [.pointer none])).set (N + 4) (.cells true 1 [jp J]) := ⟨_, rfl⟩
  have F3 : Fr s3 s [] := by rw [hs3]; exact Fr.new (hT.free (by omega)) (Fr.new (hT.free (by omega)) F2)
  have T3 : Top (N + 5) s3 := by rw [hs3]; exact Top.set T2.new (by omega)
  have hoff : ∀ i, i < N + 4 → s3 i = s2 i := fun i hi => by rw [hs3, AHeap.set_other _ _ (by omega), AHeap.set_other _ _ (by omega)]
  have hJ3 : JH J s3 (start 65) := hJ.off (hoff _ (by omega)) (hoff _ (by omega)) (hoff _ (by omega)) (hoff _ (by omega))
  have aP : At s3 (N + 4) (.cells true 1 [jp J]) := by rw [hs3]; exact At.hit
  have hM : FM J (N + 4) s s3 s3 := ⟨aP, F3, Ext.refl _, N + 5, T3, by omega, by omega, by omega, by omega, by omega⟩
  have c44 := checkAll44 (h.fr F3) hn

  rw [hs3] at c44
  by_cases hg : TP.Good l
  · have c45 := contains45f h hg hn hJ3 hM ⟨by omega, by omega, by omega, by omega⟩ hf
    rw [hs3] at c45
    rw [ck_y hg] at c44
    (repeat' (first | (apply Ab.K.ev; exact ev_) | (apply Ab.K.aops; first | (apply Xg.s; constructor) | (apply Ab.S.guardU; (case hd => rfl); (case hb => (exact ev_; done))) | apply Ab.S.guardG) | (apply Ab.K.aop; first | (first | (apply Ab.O.alloc1 (N + 4); (case hid => exact T2.free (Nat.le_refl _)); (case hp => rfl)) | (apply Ab.O.makeFunc; (case h1 => exact evs_); (case h2 => exact evs_); (case a1 => rfl); (case a2 => rfl)) | (apply Ab.O.callFE; (case ha => exact evs_); (case hc => exact c45))) | (apply Og.s; constructor)) | (apply Ab.K.gk; first | (apply Xg.s; constructor) | (apply Ab.gY; case hw => assumption) | (apply Ab.gNT; case hw => assumption) | (apply Ab.gNF; case hw => assumption) | ((first | apply Ab.gD | apply Ab.gDN); all_goals (intro _ _; (first | contradiction | (exfalso; omega) | skip)))) | (apply Ab.K.awp; first | (apply Xg.s; constructor)) | (apply Ab.K.at_; exact at_) | (apply Ab.K.acall; first | assumption | first | exact c43 | exact c44) | (apply Ab.Rg.mk; omega) | (apply Ab.Lt.mk; first | decide | (simp; done) | (simp; omega) | fail) | (apply Ab.Get.mk; first | rfl | fail) | (apply Ab.Nm.mk; first | exact nrm_) | (apply Xg.s; constructor) | (apply Ab.asm; assumption) | rfl | infer_instance | decide))
    rintro v s4 ⟨rfl, hM4⟩
    have F4 := hM4.2.1
    have hv : gfB l = foB l := by simp [gfB, hg]
    rw [hv]
    clear c45 c44 c43
    cases foB l
    · (repeat' (first | (apply Ab.K.ev; exact ev_) | (apply Ab.K.aops; first | (apply Xg.s; constructor) | (apply Ab.S.guardU; (case hd => rfl); (case hb => (exact ev_; done))) | apply Ab.S.guardG) | (apply Ab.K.aop; first | (first | (apply Ab.O.alloc1 (N + 4); (case hid => exact T2.free (Nat.le_refl _)); (case hp => rfl)) | (apply Ab.O.makeFunc; (case h1 => exact evs_); (case h2 => exact evs_); (case a1 => rfl); (case a2 => rfl)) | (apply Ab.O.callFE; (case ha => exact evs_); (case hc => exact c45))) | (apply Og.s; constructor)) | (apply Ab.K.gk; first | (apply Xg.s; constructor) | (apply Ab.gY; case hw => assumption) | (apply Ab.gNT; case hw => assumption) | (apply Ab.gNF; case hw => assumption) | ((first | apply Ab.gD | apply Ab.gDN); all_goals (intro _ _; (first | contradiction | (exfalso; omega) | skip)))) | (apply Ab.K.awp; first | (apply Xg.s; constructor)) | (apply Ab.K.at_; exact at_) | (apply Ab.K.acall; first | assumption | first | exact c43 | exact c44) | (apply Ab.Rg.mk; omega) | (apply Ab.Lt.mk; first | decide | (simp; done) | (simp; omega) | fail) | (apply Ab.Get.mk; first | rfl | fail) | (apply Ab.Nm.mk; first | exact nrm_) | (apply Xg.s; constructor) | (apply Ab.asm; assumption) | rfl | infer_instance | decide))
      all_goals ((first | apply RetQ.ret | apply RetQ.normal); (case he => exact evr_); (case hg => rfl))
      all_goals first | rfl | exact Keeps.fr F4 (plR.nm rfl)
    · (repeat' (first | (apply Ab.K.ev; exact ev_) | (apply Ab.K.aops; first | (apply Xg.s; constructor) | (apply Ab.S.guardU; (case hd => rfl); (case hb => (exact ev_; done))) | apply Ab.S.guardG) | (apply Ab.K.aop; first | (first | (apply Ab.O.alloc1 (N + 4); (case hid => exact T2.free (Nat.le_refl _)); (case hp => rfl)) | (apply Ab.O.makeFunc; (case h1 => exact evs_); (case h2 => exact evs_); (case a1 => rfl); (case a2 => rfl)) | (apply Ab.O.callFE; (case ha => exact evs_); (case hc => exact c45))) | (apply Og.s; constructor)) | (apply Ab.K.gk; first | (apply Xg.s; constructor) | (apply Ab.gY; case hw => assumption) | (apply Ab.gNT; case hw => assumption) | (apply Ab.gNF; case hw => assumption) | ((first | apply Ab.gD | apply Ab.gDN); all_goals (intro _ _; (first | contradiction | (exfalso; omega) | skip)))) | (apply Ab.K.awp; first | (apply Xg.s; constructor)) | (apply Ab.K.at_; exact at_) | (apply Ab.K.acall; first | assumption | first | exact c43 | exact c44) | (apply Ab.Rg.mk; omega) | (apply Ab.Lt.mk; first | decide | (simp; done) | (simp; omega) | fail) | (apply Ab.Get.mk; first | rfl | fail) | (apply Ab.Nm.mk; first | exact nrm_) | (apply Xg.s; constructor) | (apply Ab.asm; assumption) | rfl | infer_instance | decide))
      all_goals ((first | apply RetQ.ret | apply RetQ.normal); (case he => exact evr_); (case hg => rfl))
      all_goals first | rfl | exact Keeps.fr F4 (plR.nm rfl)
  · have hv : gfB l = false := by simp [gfB, hg]
    rw [hv]
    rw [ck_n hg] at c44
    rw [hs3] at F3
    (repeat' (first | (apply Ab.K.ev; exact ev_) | (apply Ab.K.aops; first | (apply Xg.s; constructor) | (apply Ab.S.guardU; (case hd => rfl); (case hb => (exact ev_; done))) | apply Ab.S.guardG) | (apply Ab.K.aop; first | (first | (apply Ab.O.alloc1 (N + 4); (case hid => exact T2.free (Nat.le_refl _)); (case hp => rfl)) | (apply Ab.O.makeFunc; (case h1 => exact evs_); (case h2 => exact evs_); (case a1 => rfl); (case a2 => rfl)) | (apply Ab.O.callFE; (case ha => exact evs_); (case hc => exact c45))) | (apply Og.s; constructor)) | (apply Ab.K.gk; first | (apply Xg.s; constructor) | (apply Ab.gY; case hw => assumption) | (apply Ab.gNT; case hw => assumption) | (apply Ab.gNF; case hw => assumption) | ((first | apply Ab.gD | apply Ab.gDN); all_goals (intro _ _; (first | contradiction | (exfalso; omega) | skip)))) | (apply Ab.K.awp; first | (apply Xg.s; constructor)) | (apply Ab.K.at_; exact at_) | (apply Ab.K.acall; first | assumption | first | exact c43 | exact c44) | (apply Ab.Rg.mk; omega) | (apply Ab.Lt.mk; first | decide | (simp; done) | (simp; omega) | fail) | (apply Ab.Get.mk; first | rfl | fail) | (apply Ab.Nm.mk; first | exact nrm_) | (apply Xg.s; constructor) | (apply Ab.asm; assumption) | rfl | infer_instance | decide))
    all_goals ((first | apply RetQ.ret | apply RetQ.normal); (case he => exact evr_); (case hg => rfl))
    all_goals first | rfl | exact Keeps.fr F3 (plR.nm rfl)
end Go.Proofs.Ytnbgeodignljfaa
