/- trees: the program's sides. -/
import Derived.Test.YtnbgeodignljfaaUB
import Derived.Test.YtnbgeodignljfaaUC
import Derived.Test.YtnbgeodignljfaaTN
namespace Go.Proofs.Ytnbgeodignljfaa
set_option linter.unusedVariables false
set_option linter.unusedSimpArgs false
set_option linter.unusedSectionVars false
open Go.RowKit Ab TP
attribute [local irreducible] AOps AOpsD AOp AWp put nargs AHeap.set At Free ACall ACallE thenQ blockQ roundQ RetQ RetE Src bsn Gr
theorem side33 {s : AHeap} {q : Nat} {e cut : E} (hq : At s q (.cells true 1 (ec cut))) : ACall Try.prog 33 (.agg (ec e).toArray :: #[Value.pointer (some ⟨q, 0, none⟩)].toList) s (.bool (decide (e = cut))) s := by
  have qq : ∀ x y, ABin Try.prog .eql 32 x y (.agg (ec e).toArray) (.agg (ec cut).toArray) (.bool (decide (e = cut))) := fun x y => eq32



  refine ACall.make Try.func33 rfl (by kernel_rfl) (by decide) rfl (fun N hN => ?_)
  have hT : Top N s := hN
  have hqN := hT.lt hq
  (repeat' (first | (apply Ab.K.ev; exact ev_) | (apply Ab.K.aops; first | (apply Xg.s; constructor) | (apply Ab.S.guardU; (case hd => rfl); (case hb => (exact ev_; done))) | apply Ab.S.guardG) | (apply Ab.K.aop; first | (first | (apply Ab.O.boxA (N + 0); (case hx => exact ev_); (case hid => exact frees_)) | (apply Ab.O.bin; (case hx => exact ev_); (case hy => exact ev_); (case hv => exact qq _ _))) | (apply Og.s; constructor)) | (apply Ab.K.gk; first | (apply Xg.s; constructor) | (apply Ab.gY; case hw => assumption) | (apply Ab.gNT; case hw => assumption) | (apply Ab.gNF; case hw => assumption) | ((first | apply Ab.gD | apply Ab.gDN); all_goals (intro _ _; (first | contradiction | (exfalso; omega) | skip)))) | (apply Ab.K.awp; first | (apply Xg.s; constructor)) | (apply Ab.K.at_; exact at_) | (apply Ab.K.acall; first | assumption | fail) | (apply Ab.Rg.mk; omega) | (apply Ab.Lt.mk; first | decide | (simp; done) | (simp; omega) | (show (0 + 3 : Nat) < 3 + 1; decide)) | (apply Ab.Get.mk; first | rfl | fail) | (apply Ab.Nm.mk; first | first | exact (show ((ec e).drop 0).take 3 = ec e from rfl) | exact (show ((ec cut).drop 0).take 3 = ec cut from rfl) | exact nrm_) | (apply Xg.s; constructor) | (apply Ab.asm; assumption) | rfl | infer_instance | decide))
  all_goals ((first | apply RetQ.ret | apply RetQ.normal); (case he => exact evr_); (case hg => rfl))
  all_goals first | rfl | (apply Keeps.fr; (case h => exact fr_); (case hv => exact plR.nm rfl))
/-- What the program's side answers. -/
noncomputable def sOk (l : List E) (a : Int) : Bool := gfB l && decide (TP.Node a)
theorem sOk_iff {l : List E} {a : Int} : sOk l a = true ↔ TP.Good l ∧ Forest l ∧ TP.Node a := by
  unfold sOk gfB
  simp only [Bool.and_eq_true, decide_eq_true_iff, foB_iff, and_assoc]
theorem side13_no {s : AHeap} {A : Option Addr} {n c : Nat} {on : Option Nat} {l : List E} {cut : E} {a : Int} (h : EA s (.slice A n c) on l) (hn : n ≤ 512) (hno : sOk l a = false) :
    ACall Try.prog 13 [.slice A n c, .agg (ec cut).toArray, .int .i64 a] s (.tuple #[.slice none 0 0, .int .i64 1]) s := by
  refine ACall.make Try.func13 rfl (by kernel_rfl) (by decide) rfl (fun N hN => ?_)
  have hT : Top N s := hN
  have F1 : Fr (s.set (N + 0) (.cells true 1 (ec cut))) s [] := Fr.new (hT.free (by omega)) (Fr.refl _ _)
  have c28 := forest28 (h.fr F1) hn
  have na : ACall Try.prog 29 [.int .i64 a] (s.set (N + 0) (.cells true 1 (ec cut))) (.bool (decide (TP.Node a))) _ := node29

  cases hgf : gfB l
  · rw [hgf] at c28
    (repeat' (first | (apply Ab.K.ev; exact ev_) | (apply Ab.K.aops; first | (apply Xg.s; constructor) | (apply Ab.S.guardU; (case hd => rfl); (case hb => (exact ev_; done))) | apply Ab.S.guardG) | (apply Ab.K.aop; first | (apply Ab.O.boxA (l := ec cut) (N + 0); (case hx => exact ev_); (case hid => exact frees_)) | (apply Og.s; constructor)) | (apply Ab.K.gk; first | (apply Xg.s; constructor) | (apply Ab.gY; case hw => assumption) | (apply Ab.gNT; case hw => assumption) | (apply Ab.gNF; case hw => assumption) | ((first | apply Ab.gD | apply Ab.gDN); all_goals (intro _ _; (first | contradiction | (exfalso; omega) | skip)))) | (apply Ab.K.awp; first | (apply Xg.s; constructor)) | (apply Ab.K.at_; exact at_) | (apply Ab.K.acall; first | assumption | first | exact c28 | exact na) | (apply Ab.Rg.mk; omega) | (apply Ab.Lt.mk; first | decide | (simp; done) | (simp; omega) | (show (0 + 3 : Nat) < 3 + 1; decide)) | (apply Ab.Get.mk; first | rfl | fail) | (apply Ab.Nm.mk; first | first | exact (show ((ec e).drop 0).take 3 = ec e from rfl) | exact (show ((ec cut).drop 0).take 3 = ec cut from rfl) | exact nrm_) | (apply Xg.s; constructor) | (apply Ab.asm; assumption) | rfl | infer_instance | decide))
    all_goals ((first | apply RetQ.ret | apply RetQ.normal); (case he => exact evr_); (case hg => rfl))
    all_goals first | rfl | (apply Keeps.fr; (case h => exact fr_); (case hv => exact plR.nm rfl))
  · rw [hgf] at c28
    by_cases ha : TP.Node a
    · exfalso; rw [sOk, hgf, decide_eq_true ha] at hno; cases hno
    · rw [decide_eq_false ha] at na
      (repeat' (first | (apply Ab.K.ev; exact ev_) | (apply Ab.K.aops; first | (apply Xg.s; constructor) | (apply Ab.S.guardU; (case hd => rfl); (case hb => (exact ev_; done))) | apply Ab.S.guardG) | (apply Ab.K.aop; first | (apply Ab.O.boxA (l := ec cut) (N + 0); (case hx => exact ev_); (case hid => exact frees_)) | (apply Og.s; constructor)) | (apply Ab.K.gk; first | (apply Xg.s; constructor) | (apply Ab.gY; case hw => assumption) | (apply Ab.gNT; case hw => assumption) | (apply Ab.gNF; case hw => assumption) | ((first | apply Ab.gD | apply Ab.gDN); all_goals (intro _ _; (first | contradiction | (exfalso; omega) | skip)))) | (apply Ab.K.awp; first | (apply Xg.s; constructor)) | (apply Ab.K.at_; exact at_) | (apply Ab.K.acall; first | assumption | first | exact c28 | exact na) | (apply Ab.Rg.mk; omega) | (apply Ab.Lt.mk; first | decide | (simp; done) | (simp; omega) | (show (0 + 3 : Nat) < 3 + 1; decide)) | (apply Ab.Get.mk; first | rfl | fail) | (apply Ab.Nm.mk; first | first | exact (show ((ec e).drop 0).take 3 = ec e from rfl) | exact (show ((ec cut).drop 0).take 3 = ec cut from rfl) | exact nrm_) | (apply Xg.s; constructor) | (apply Ab.asm; assumption) | rfl | infer_instance | decide))
      all_goals ((first | apply RetQ.ret | apply RetQ.normal); (case he => exact evr_); (case hg => rfl))
      all_goals first | rfl | (apply Keeps.fr; (case h => exact fr_); (case hv => exact plR.nm rfl))
theorem keepF_rm {l : List E} {e : E} : keepF (fun f => decide (f = e)) l = rm l e := by
  unfold keepF rm
  exact List.filter_congr fun f _ => by simp
theorem rm_none {l : List E} {e : E} (h : e ∉ l) : rm l e = l := List.filter_eq_self.2 fun f hf => by
  rw [decide_eq_true_iff]; exact fun e1 => h (e1 ▸ hf)
theorem rm_lt {l : List E} {e : E} (h : e ∈ l) : (rm l e).length < l.length := by
  have hs : (rm l e).length ≤ l.length := rm_len
  by_cases hh : (rm l e).length = l.length
  · have := (List.filter_sublist (l := l) (p := fun f => decide (f ≠ e))).eq_of_length hh
    have h2 : e ∈ rm l e := by unfold rm; rw [this]; exact h
    exact absurd rfl (mem_rm.1 h2).2
  · omega
/-- Edges in a slice's first cells. -/
theorem EA.part {s : AHeap} {q c : Nat} {cs : List Value} {l : List E} (h : At s q (.cells true 3 cs)) (hc : cs.length = c * 3) (hx : cs.take (l.length * 3) = ecs l) : EA s (.slice (some ⟨q, 0, none⟩) l.length c) (some q) l := by
  refine .blk h ?_ hx
  have := congrArg List.length hx
  rw [List.length_take, ecs_length] at this
  omega
set_option maxHeartbeats 4000000 in
theorem side13_yes {s : AHeap} {A : Option Addr} {n c : Nat} {on : Option Nat} {l : List E} {cut : E} {a : Int} {o : Nat} (h : EA s (.slice A n c) on l) (hn : n ≤ 512) (hok : sOk l a = true) (hin : cut ∈ l) (ho : s o = none) :
    ACall Try.prog 13 [.slice A n c, .agg (ec cut).toArray, .int .i64 a] s (.tuple #[.slice (some ⟨o, 0, none⟩) (side (rm l cut) a).length (side (rm l cut) a).length, .int .i64 0]) (s.set o (.cells true 1 (ints (side (rm l cut) a)))) := by
  obtain ⟨hg, hf, ha⟩ := sOk_iff.1 hok
  have hnl : n = l.length := by obtain ⟨_, _, e⟩ := h.isl; injection e
  rcases h.addr with rfl | ⟨q0, rfl⟩
  · obtain ⟨_, _, rfl⟩ := h.nil_len; cases hin
  refine ACall.make Try.func13 rfl (by kernel_rfl) (by decide) rfl (fun N hN => ?_)
  have hT : Top N s := hN
  obtain ⟨s1, hs1⟩ : ∃ s1, s1 = s.set N (.cells true 1 (ec cut)) := ⟨_, rfl⟩
  have F1 : Fr s1 s [] := by rw [hs1]; exact Fr.new (hT.free (by omega)) (Fr.refl _ _)
  have T1 : Top (N + 1) s1 := by rw [hs1]; exact hT.new
  have a1 : At s1 N (.cells true 1 (ec cut)) := by rw [hs1]; exact At.hit
  have c28 := forest28 (h.fr F1) hn
  have na : ACall Try.prog 29 [.int .i64 a] s1 (.bool (decide (TP.Node a))) _ := node29
  rw [show gfB l = true from by simp [gfB, hg, foB_iff.2 hf]] at c28
  rw [decide_eq_true ha] at na
  have c32 := clone32 (h.fr F1) hn (T1.none (Nat.le_refl _))
  obtain ⟨s2, hs2⟩ : ∃ s2, s2 = s1.set (N + 1) (.cells true 3 (ecs l)) := ⟨_, rfl⟩
  have F2 : Fr s2 s [] := by rw [hs2]; exact Fr.new (hT.free (by omega)) F1
  have T2 : Top (N + 2) s2 := by rw [hs2]; exact T1.new
  have a2 : At s2 N (.cells true 1 (ec cut)) := by rw [hs2]; exact At.miss (by omega) a1
  have aq : At s2 (N + 1) (.cells true 3 (ecs l)) := by rw [hs2]; exact At.hit
  have c31 := deleteF31 (fn := 33) (caps := #[.pointer (some ⟨N, 0, none⟩)]) (b := fun e => decide (e = cut)) aq hnl hn (fun s3 e F3 he => side33 (At.var (F3 N (by simp) _ a2.eq)))
  rw [keepF_rm] at c31
  rw [hs2, hs1] at c31
  rw [hs1] at c28 na c32

  (repeat' (first | (apply Ab.K.ev; exact ev_) | (apply Ab.K.aops; first | (apply Xg.s; constructor) | (apply Ab.S.guardU; (case hd => rfl); (case hb => (exact ev_; done))) | apply Ab.S.guardG) | (apply Ab.K.aop; first | (first | (apply Ab.O.boxA (l := ec cut) N; (case hx => exact ev_); (case hid => exact hT.free (Nat.le_refl _))) | (apply Ab.O.makeFunc; (case h1 => exact evs_); (case h2 => exact evs_); (case a1 => rfl); (case a2 => rfl)) | (apply Ab.O.callFE; (case ha => exact evs_); (case hc => exact c31))) | (apply Og.s; constructor)) | (apply Ab.K.gk; first | (apply Xg.s; constructor) | (apply Ab.gY; case hw => assumption) | (apply Ab.gNT; case hw => assumption) | (apply Ab.gNF; case hw => assumption) | ((first | apply Ab.gD | apply Ab.gDN); all_goals (intro _ _; (first | contradiction | (exfalso; omega) | skip)))) | (apply Ab.K.awp; first | (apply Xg.s; constructor)) | (apply Ab.K.at_; exact at_) | (apply Ab.K.acall; first | assumption | first | exact c28 | exact na | exact c32) | (apply Ab.Rg.mk; omega) | (apply Ab.Lt.mk; first | decide | (simp; done) | (simp; omega) | (show (0 + 3 : Nat) < 3 + 1; decide)) | (apply Ab.Get.mk; first | rfl | fail) | (apply Ab.Nm.mk; first | first | exact (show ((ec e).drop 0).take 3 = ec e from rfl) | exact (show ((ec cut).drop 0).take 3 = ec cut from rfl) | exact nrm_) | (apply Xg.s; constructor) | (apply Ab.asm; assumption) | rfl | infer_instance | decide))
  rw [← hs1, ← hs2]
  rintro v s3 ⟨cs, rfl, rfl, hcl, hcp, hct⟩
  clear c28 na c32 c31
  have F3 : Fr (s2.set (N + 1) (.cells true 3 cs)) s [] := by rw [hs2, AHeap.set_set]; exact Fr.new (hT.free (by omega)) F1
  have T3 : Top (N + 2) (s2.set (N + 1) (.cells true 3 cs)) := T2.set (by omega)
  have hlt := rm_lt hin
  have c34 := linked34 (o := N + 2) (EA.part (l := rm l cut) (At.hit (s := s2)) hcl hct) (hg.rm cut) ha (by omega) (T3.none (Nat.le_refl _))
  have hne : ¬ ((rm l cut).length : Int) = (n : Int) := by omega

  (repeat' (first | (apply Ab.K.ev; exact ev_) | (apply Ab.K.aops; first | (apply Xg.s; constructor) | (apply Ab.S.guardU; (case hd => rfl); (case hb => (exact ev_; done))) | apply Ab.S.guardG) | (apply Ab.K.aop; first | (apply Og.s; constructor)) | (apply Ab.K.gk; first | (apply Xg.s; constructor) | (apply Ab.gY; case hw => assumption) | (apply Ab.gNT; case hw => assumption) | (apply Ab.gNF; case hw => assumption) | ((first | apply Ab.gD | apply Ab.gDN); all_goals (intro _ _; (first | contradiction | (exfalso; omega) | skip)))) | (apply Ab.K.awp; first | (apply Xg.s; constructor)) | (apply Ab.K.at_; exact at_) | (apply Ab.K.acall; first | assumption | exact c34) | (apply Ab.Rg.mk; omega) | (apply Ab.Lt.mk; first | decide | (simp; done) | (simp; omega) | (show (0 + 3 : Nat) < 3 + 1; decide)) | (apply Ab.Get.mk; first | rfl | fail) | (apply Ab.Nm.mk; first | first | exact (show ((ec e).drop 0).take 3 = ec e from rfl) | exact (show ((ec cut).drop 0).take 3 = ec cut from rfl) | exact nrm_) | (apply Xg.s; constructor) | (apply Ab.asm; assumption) | rfl | infer_instance | decide))
  apply RetQ.retR (renL (dn [(o, N + 2, .cells true 1 (ints (side (rm l cut) a)))]))
  (case he => exact evr_)
  (case hg => rfl)
  · simp [resV, mpR, mpB, mp1, mpA, renL_hit]
  · exact KeepsR.new1 ho (hT.none (by omega)) (Fr.new (hT.free (by omega)) F3) At.hit (ints_pl _) (by simp [nmR, nmB, nm1, nmA])
  · simp
theorem side13_none {s : AHeap} {A : Option Addr} {n c : Nat} {on : Option Nat} {l : List E} {cut : E} {a : Int} (h : EA s (.slice A n c) on l) (hn : n ≤ 512) (hok : sOk l a = true) (hin : cut ∉ l) :
    ACall Try.prog 13 [.slice A n c, .agg (ec cut).toArray, .int .i64 a] s (.tuple #[.slice none 0 0, .int .i64 4]) s := by
  obtain ⟨hg, hf, ha⟩ := sOk_iff.1 hok
  have hnl : n = l.length := by obtain ⟨_, _, e⟩ := h.isl; injection e
  refine ACall.make Try.func13 rfl (by kernel_rfl) (by decide) rfl (fun N hN => ?_)
  have hT : Top N s := hN
  obtain ⟨s1, hs1⟩ : ∃ s1, s1 = s.set N (.cells true 1 (ec cut)) := ⟨_, rfl⟩
  have F1 : Fr s1 s [] := by rw [hs1]; exact Fr.new (hT.free (by omega)) (Fr.refl _ _)
  have T1 : Top (N + 1) s1 := by rw [hs1]; exact hT.new
  have a1 : At s1 N (.cells true 1 (ec cut)) := by rw [hs1]; exact At.hit
  have c28 := forest28 (h.fr F1) hn
  have na : ACall Try.prog 29 [.int .i64 a] s1 (.bool (decide (TP.Node a))) _ := node29
  rw [show gfB l = true from by simp [gfB, hg, foB_iff.2 hf]] at c28
  rw [decide_eq_true ha] at na
  have hbl : ∀ e ∈ l, (fun e => decide (e = cut)) e = false := fun e he => decide_eq_false fun e1 => hin (e1 ▸ he)
  have h33 : ∀ e, e ∈ l → ∀ s3 : AHeap, At s3 N (.cells true 1 (ec cut)) → ACall Try.prog 33 (.agg (ec e).toArray :: #[Value.pointer (some ⟨N, 0, none⟩)].toList) s3 (.bool (decide (e = cut))) s3 := fun e _ s3 h => side33 h
  rcases h.addr with rfl | ⟨q0, rfl⟩
  · obtain ⟨rfl, rfl, _⟩ := h.nil_len
    have c32 := clone32_nil (s := s1) (c := 0)
    have c31 := deleteF31n (fn := 33) (caps := #[.pointer (some ⟨N, 0, none⟩)]) (h.fr F1) hn hbl (fun e he => h33 e he s1 a1)
    rw [hs1] at c28 na c32 c31

    (repeat' (first | (apply Ab.K.ev; exact ev_) | (apply Ab.K.aops; first | (apply Xg.s; constructor) | (apply Ab.S.guardU; (case hd => rfl); (case hb => (exact ev_; done))) | apply Ab.S.guardG) | (apply Ab.K.aop; first | (first | (apply Ab.O.boxA (l := ec cut) N; (case hx => exact ev_); (case hid => exact hT.free (Nat.le_refl _))) | (apply Ab.O.makeFunc; (case h1 => exact evs_); (case h2 => exact evs_); (case a1 => rfl); (case a2 => rfl))) | (apply Og.s; constructor)) | (apply Ab.K.gk; first | (apply Xg.s; constructor) | (apply Ab.gY; case hw => assumption) | (apply Ab.gNT; case hw => assumption) | (apply Ab.gNF; case hw => assumption) | ((first | apply Ab.gD | apply Ab.gDN); all_goals (intro _ _; (first | contradiction | (exfalso; omega) | skip)))) | (apply Ab.K.awp; first | (apply Xg.s; constructor)) | (apply Ab.K.at_; exact at_) | (apply Ab.K.acall; first | assumption | first | exact c28 | exact na | exact c32 | exact c31) | (apply Ab.Rg.mk; omega) | (apply Ab.Lt.mk; first | decide | (simp; done) | (simp; omega) | (show (0 + 3 : Nat) < 3 + 1; decide)) | (apply Ab.Get.mk; first | rfl | fail) | (apply Ab.Nm.mk; first | first | exact (show ((ec e).drop 0).take 3 = ec e from rfl) | exact (show ((ec cut).drop 0).take 3 = ec cut from rfl) | exact nrm_) | (apply Xg.s; constructor) | (apply Ab.asm; assumption) | rfl | infer_instance | decide))
    all_goals ((first | apply RetQ.ret | apply RetQ.normal); (case he => exact evr_); (case hg => rfl))
    all_goals first | rfl | (apply Keeps.fr; (case h => exact fr_); (case hv => exact plR.nm rfl))
  · have c32 := clone32 (h.fr F1) hn (T1.none (Nat.le_refl _))
    obtain ⟨s2, hs2⟩ : ∃ s2, s2 = s1.set (N + 1) (.cells true 3 (ecs l)) := ⟨_, rfl⟩
    have F2 : Fr s2 s [] := by rw [hs2]; exact Fr.new (hT.free (by omega)) F1
    have a2 : At s2 N (.cells true 1 (ec cut)) := by rw [hs2]; exact At.miss (by omega) a1
    have aq : At s2 (N + 1) (.cells true 3 (ecs l)) := by rw [hs2]; exact At.hit
    have hE := EA.own aq
    rw [← hnl] at hE
    have c31 := deleteF31n (fn := 33) (caps := #[.pointer (some ⟨N, 0, none⟩)]) hE hn hbl (fun e he => h33 e he s2 a2)
    rw [hs2, hs1] at c31
    rw [hs1] at c28 na c32
    (repeat' (first | (apply Ab.K.ev; exact ev_) | (apply Ab.K.aops; first | (apply Xg.s; constructor) | (apply Ab.S.guardU; (case hd => rfl); (case hb => (exact ev_; done))) | apply Ab.S.guardG) | (apply Ab.K.aop; first | (first | (apply Ab.O.boxA (l := ec cut) N; (case hx => exact ev_); (case hid => exact hT.free (Nat.le_refl _))) | (apply Ab.O.makeFunc; (case h1 => exact evs_); (case h2 => exact evs_); (case a1 => rfl); (case a2 => rfl))) | (apply Og.s; constructor)) | (apply Ab.K.gk; first | (apply Xg.s; constructor) | (apply Ab.gY; case hw => assumption) | (apply Ab.gNT; case hw => assumption) | (apply Ab.gNF; case hw => assumption) | ((first | apply Ab.gD | apply Ab.gDN); all_goals (intro _ _; (first | contradiction | (exfalso; omega) | skip)))) | (apply Ab.K.awp; first | (apply Xg.s; constructor)) | (apply Ab.K.at_; exact at_) | (apply Ab.K.acall; first | assumption | first | exact c28 | exact na | exact c32 | exact c31) | (apply Ab.Rg.mk; omega) | (apply Ab.Lt.mk; first | decide | (simp; done) | (simp; omega) | (show (0 + 3 : Nat) < 3 + 1; decide)) | (apply Ab.Get.mk; first | rfl | fail) | (apply Ab.Nm.mk; first | first | exact (show ((ec e).drop 0).take 3 = ec e from rfl) | exact (show ((ec cut).drop 0).take 3 = ec cut from rfl) | exact nrm_) | (apply Xg.s; constructor) | (apply Ab.asm; assumption) | rfl | infer_instance | decide))
    all_goals ((first | apply RetQ.ret | apply RetQ.normal); (case he => exact evr_); (case hg => rfl))
    all_goals first | rfl | (apply Keeps.fr; (case h => exact fr_); (case hv => exact plR.nm rfl))
end Go.Proofs.Ytnbgeodignljfaa
