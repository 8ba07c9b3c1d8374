/- texts of this claim, one behind the other: VJ, VK. -/
import Derived.Test.YtdbnpghckgmaoaaM24

/- routes: why nothing is told, the next hop and the leader, by the document. -/
namespace Go.Proofs.Ytdbnpghckgmaoaa
set_option linter.unusedVariables false
set_option linter.unusedSimpArgs false
set_option linter.unusedSectionVars false
open Go.RowKit Ab TP VP
attribute [local irreducible] AOps AOpsD AOp AWp put nargs AHeap.set At Free ACall ACallE thenQ blockQ roundQ RetQ RetE Src Gr side lkN chk hopE hopV ldr nxt VP.bnd inn mvB reachB lkB foB



set_option maxHeartbeats 4000000 in
theorem check11 {s : AHeap} {A B : Option Addr} {n c m d : Nat} {nodes : List Int} {L : List Kn} {a : Int} (h : VAt s A B n c m d nodes L) :
    ACall Try.prog 14 [.agg #[.slice A n c, .slice B m d], .int .i64 a] s (.int .i64 (chk nodes L a)) s := by
  obtain ⟨on, hN⟩ := h.n
  obtain ⟨ol, hL⟩ := h.l
  have hn := h.nn
  have hm : m ≤ 100000 := by have := h.mm; omega
  refine ACall.make Try.func14 rfl (by kernel_rfl) (by decide) rfl (fun N hN0 => ?_)
  have hT : Top N s := hN0
  have F1 : Fr (s.set N (.cells true 1 [.slice A n c, .slice B m d])) s [] := Fr.new (hT.free (Nat.le_refl _)) (Fr.refl _ _)
  have c26 := may09 (hN.fr F1) (hL.fr F1) hn hm
  have c22 : ∀ s : AHeap, ACall Try.prog 22 [.int .i64 a] s (.bool (decide (TP.Node a))) s := fun s => node15

  cases hmv : mvB nodes L
  · have hc1 : chk nodes L a = 1 := by unfold chk; rw [if_neg (by rw [hmv]; simp)]
    rw [hc1]
    rw [hmv] at c26
    (repeat' (first | (apply Ab.K.ev; exact ev_) | (apply Ab.K.aops; first | (apply Xg.s; constructor) | (apply Ab.S.guardU; (case hd => rfl); (case hb => (exact ev_; done))) | apply Ab.S.guardG) | (apply Ab.K.aop; first | (apply Ab.O.boxA (l := [.slice A n c, .slice B m d]) N; (case hx => exact ev_); (case hid => exact hT.free (Nat.le_refl _))) | (apply Og.s; constructor)) | (apply Ab.K.gk; first | (apply Xg.s; constructor) | (apply Ab.gY; case hw => assumption) | (apply Ab.gNT; case hw => assumption) | (apply Ab.gNF; case hw => assumption) | ((first | apply Ab.gD | apply Ab.gDN); all_goals (intro _ _; (first | contradiction | (exfalso; omega) | skip)))) | (apply Ab.K.awp; first | (apply Xg.s; constructor)) | (apply Ab.K.at_; exact at_) | (apply Ab.K.acall; first | assumption | first | exact c26 | exact c22 _) | (apply Ab.Rg.mk; omega) | (apply Ab.Lt.mk; first | decide | (simp; done) | (simp; omega) | fail) | (apply Ab.Get.mk; first | rfl | rfl) | (apply Ab.Nm.mk; first | exact (show (([.slice A n c, .slice B m d] : List Value).drop 0).take 2 = [.slice A n c, .slice B m d] from rfl) | exact nrm_) | (apply Xg.s; constructor) | (apply Ab.asm; assumption) | rfl | infer_instance | decide))
    all_goals ((first | apply RetQ.ret | apply RetQ.normal); (case he => exact evr_); (case hg => rfl))
    all_goals first | rfl | (apply Keeps.fr; (case h => exact fr_); (case hv => exact plR.nm rfl))
  have hMV := mvB_iff.1 hmv
  rw [hmv] at c26
  by_cases ha : TP.Node a
  case neg =>
    have hc1 : chk nodes L a = 1 := by unfold chk; rw [if_neg (fun h => ha h.2)]
    rw [hc1]
    rw [decide_eq_false ha] at c22
    (repeat' (first | (apply Ab.K.ev; exact ev_) | (apply Ab.K.aops; first | (apply Xg.s; constructor) | (apply Ab.S.guardU; (case hd => rfl); (case hb => (exact ev_; done))) | apply Ab.S.guardG) | (apply Ab.K.aop; first | (apply Ab.O.boxA (l := [.slice A n c, .slice B m d]) N; (case hx => exact ev_); (case hid => exact hT.free (Nat.le_refl _))) | (apply Og.s; constructor)) | (apply Ab.K.gk; first | (apply Xg.s; constructor) | (apply Ab.gY; case hw => assumption) | (apply Ab.gNT; case hw => assumption) | (apply Ab.gNF; case hw => assumption) | ((first | apply Ab.gD | apply Ab.gDN); all_goals (intro _ _; (first | contradiction | (exfalso; omega) | skip)))) | (apply Ab.K.awp; first | (apply Xg.s; constructor)) | (apply Ab.K.at_; exact at_) | (apply Ab.K.acall; first | assumption | first | exact c26 | exact c22 _) | (apply Ab.Rg.mk; omega) | (apply Ab.Lt.mk; first | decide | (simp; done) | (simp; omega) | fail) | (apply Ab.Get.mk; first | rfl | rfl) | (apply Ab.Nm.mk; first | exact (show (([.slice A n c, .slice B m d] : List Value).drop 0).take 2 = [.slice A n c, .slice B m d] from rfl) | exact nrm_) | (apply Xg.s; constructor) | (apply Ab.asm; assumption) | rfl | infer_instance | decide))
    all_goals ((first | apply RetQ.ret | apply RetQ.normal); (case he => exact evr_); (case hg => rfl))
    all_goals first | rfl | (apply Keeps.fr; (case h => exact fr_); (case hv => exact plR.nm rfl))
  rw [decide_eq_true ha] at c22
  have bl : (bnd L).length ≤ 512 := by have := bnd_len hMV.2; have := h.mm; have := h.len; omega
  have c15 := bound09 (A := A) (n := n) (c := c) (o := N + 1) (hL.fr F1) hm hMV.2 (hT.new.none (Nat.le_refl _))
  obtain ⟨s2, hs2⟩ : ∃ s2, s2 = (s.set N (.cells true 1 [.slice A n c, .slice B m d])).set (N + 1) (.cells true 3 (ecs (bnd L))) := ⟨_, rfl⟩
  have F2 : Fr s2 s [] := by rw [hs2]; exact Fr.new (hT.free (by omega)) F1
  have a2 : At s2 N (.cells true 1 [.slice A n c, .slice B m d]) := by rw [hs2]; exact at_
  have c27 := forest22 (EA.own (s := s2) (q := N + 1) (l := bnd L) (by rw [hs2]; exact At.hit)) (Good.node hMV.good) (by omega)
  rw [hs2] at c27
  cases hfo : foB (bnd L)
  · have hc1 : chk nodes L a = 11 := by unfold chk; rw [if_pos ⟨hmv, ha⟩, if_neg (by rw [hfo]; simp)]
    rw [hc1]
    rw [hfo] at c27
    (repeat' (first | (apply Ab.K.ev; exact ev_) | (apply Ab.K.aops; first | (apply Xg.s; constructor) | (apply Ab.S.guardU; (case hd => rfl); (case hb => (exact ev_; done))) | apply Ab.S.guardG) | (apply Ab.K.aop; first | (apply Ab.O.boxA (l := [.slice A n c, .slice B m d]) N; (case hx => exact ev_); (case hid => exact hT.free (Nat.le_refl _))) | (apply Og.s; constructor)) | (apply Ab.K.gk; first | (apply Xg.s; constructor) | (apply Ab.gY; case hw => assumption) | (apply Ab.gNT; case hw => assumption) | (apply Ab.gNF; case hw => assumption) | ((first | apply Ab.gD | apply Ab.gDN); all_goals (intro _ _; (first | contradiction | (exfalso; omega) | skip)))) | (apply Ab.K.awp; first | (apply Xg.s; constructor)) | (apply Ab.K.at_; exact at_) | (apply Ab.K.acall; first | assumption | first | exact c26 | exact c22 _ | exact c15 | exact c27) | (apply Ab.Rg.mk; omega) | (apply Ab.Lt.mk; first | decide | (simp; done) | (simp; omega) | fail) | (apply Ab.Get.mk; first | rfl | rfl) | (apply Ab.Nm.mk; first | exact (show (([.slice A n c, .slice B m d] : List Value).drop 0).take 2 = [.slice A n c, .slice B m d] from rfl) | exact nrm_) | (apply Xg.s; constructor) | (apply Ab.asm; assumption) | rfl | infer_instance | decide))
    all_goals ((first | apply RetQ.ret | apply RetQ.normal); (case he => exact evr_); (case hg => rfl))
    all_goals first | rfl | (rw [← hs2]; exact Keeps.fr F2 (plR.nm rfl))
  rw [hfo] at c27
  have hck : chk nodes L a = if a ∈ nodes then 0 else 4 := by unfold chk; rw [if_pos ⟨hmv, ha⟩, if_pos hfo]
  rw [hck]
  (repeat' (first | (apply Ab.K.ev; exact ev_) | (apply Ab.K.aops; first | (apply Xg.s; constructor) | (apply Ab.S.guardU; (case hd => rfl); (case hb => (exact ev_; done))) | apply Ab.S.guardG) | (apply Ab.K.aop; first | (apply Ab.O.boxA (l := [.slice A n c, .slice B m d]) N; (case hx => exact ev_); (case hid => exact hT.free (Nat.le_refl _))) | (apply Og.s; constructor)) | (apply Ab.K.gk; first | (apply Xg.s; constructor) | (apply Ab.gY; case hw => assumption) | (apply Ab.gNT; case hw => assumption) | (apply Ab.gNF; case hw => assumption) | ((first | apply Ab.gD | apply Ab.gDN); all_goals (intro _ _; (first | contradiction | (exfalso; omega) | skip)))) | (apply Ab.K.awp; first | (apply Xg.s; constructor)) | (apply Ab.K.at_; exact at_) | (apply Ab.K.acall; first | assumption | first | exact c26 | exact c22 _ | exact c15 | exact c27) | (apply Ab.Rg.mk; omega) | (apply Ab.Lt.mk; first | decide | (simp; done) | (simp; omega) | fail) | (apply Ab.Get.mk; first | rfl | rfl) | (apply Ab.Nm.mk; first | exact (show (([.slice A n c, .slice B m d] : List Value).drop 0).take 2 = [.slice A n c, .slice B m d] from rfl) | exact nrm_) | (apply Xg.s; constructor) | (apply Ab.asm; assumption) | rfl | infer_instance | decide))
  rw [← hs2]
  clear c26 c22 c15 c27

  refine AWp.loop (fun kk tm s1 => ∃ i : Nat, Ev tm (.tmp 1) (.int .i64 a) ∧ Ev tm (.tmp 2) (.pointer (some ⟨N, 0, none⟩)) ∧ Ev tm (.tmp 5) (.int .i64 i) ∧ At s1 N (.cells true 1 [.slice A n c, .slice B m d]) ∧ Fr s1 s [] ∧ a ∉ nodes.take i ∧ i ≤ n ∧ kk = n - i) n ?_ ?_
  · exact ⟨0, by exact ev_, by exact ev_, by exact ev_, a2, F2, by simp, by omega, rfl⟩
  clear F2 a2 hs2
  rintro kk tm s1 ⟨i, e1, e2, e5, a1, F, hx, hi, hkk⟩
  have hnl := h.len.1
  by_cases hin : i < n
  · obtain ⟨y, hy⟩ : ∃ y, nodes[i]? = some y := ⟨_, List.getElem?_eq_getElem (by omega)⟩
    have htk : nodes.take (i + 1) = nodes.take i ++ [y] := by rw [List.take_add_one, hy]; rfl
    obtain ⟨q, rw1, cs, rfl, _, _, hq, g0⟩ := (hN.fr F).elt hy
    by_cases hyx : y = a
    · have hm : a ∈ nodes := hyx ▸ List.mem_of_getElem? hy
      rw [if_pos hm]
      (repeat' (first | (apply Ab.K.ev; exact ev_) | (apply Ab.K.aops; first | (apply Xg.s; constructor) | (apply Ab.S.guardU; (case hd => rfl); (case hb => (exact ev_; done))) | apply Ab.S.guardG) | (apply Ab.K.aop; first | (apply Og.s; constructor)) | (apply Ab.K.gk; first | (apply Xg.s; constructor) | (apply Ab.gY; case hw => assumption) | (apply Ab.gNT; case hw => assumption) | (apply Ab.gNF; case hw => assumption) | ((first | apply Ab.gD | apply Ab.gDN); all_goals (intro _ _; (first | contradiction | (exfalso; omega) | skip)))) | (apply Ab.K.awp; first | (apply Xg.s; constructor)) | (apply Ab.K.at_; exact at_) | (apply Ab.K.acall; first | assumption | fail) | (apply Ab.Rg.mk; omega) | (apply Ab.Lt.mk; first | decide | (simp; done) | (simp; omega) | fail) | (apply Ab.Get.mk; first | rfl | first | rfl | (rw [Int.toNat_natCast]; exact g0)) | (apply Ab.Nm.mk; first | exact (show (([.slice A n c, .slice B m d] : List Value).drop 0).take 2 = [.slice A n c, .slice B m d] from rfl) | exact nrm_) | (apply Xg.s; constructor) | (apply Ab.asm; assumption) | rfl | infer_instance | decide))
      all_goals ((first | apply RetQ.ret | apply RetQ.normal); (case he => exact evr_); (case hg => rfl))
      all_goals first | rfl | exact Keeps.fr F (plR.nm rfl)
    · (repeat' (first | (apply Ab.K.ev; exact ev_) | (apply Ab.K.aops; first | (apply Xg.s; constructor) | (apply Ab.S.guardU; (case hd => rfl); (case hb => (exact ev_; done))) | apply Ab.S.guardG) | (apply Ab.K.aop; first | (apply Og.s; constructor)) | (apply Ab.K.gk; first | (apply Xg.s; constructor) | (apply Ab.gY; case hw => assumption) | (apply Ab.gNT; case hw => assumption) | (apply Ab.gNF; case hw => assumption) | ((first | apply Ab.gD | apply Ab.gDN); all_goals (intro _ _; (first | contradiction | (exfalso; omega) | skip)))) | (apply Ab.K.awp; first | (apply Xg.s; constructor)) | (apply Ab.K.at_; exact at_) | (apply Ab.K.acall; first | assumption | fail) | (apply Ab.Rg.mk; omega) | (apply Ab.Lt.mk; first | decide | (simp; done) | (simp; omega) | fail) | (apply Ab.Get.mk; first | rfl | first | rfl | (rw [Int.toNat_natCast]; exact g0)) | (apply Ab.Nm.mk; first | exact (show (([.slice A n c, .slice B m d] : List Value).drop 0).take 2 = [.slice A n c, .slice B m d] from rfl) | exact nrm_) | (apply Xg.s; constructor) | (apply Ab.asm; assumption) | rfl | infer_instance | decide))
      exact X.roundN (n - (i + 1)) (by omega) ⟨i + 1, by exact ev_, by exact ev_, by exact ev_, a1, F, by rw [htk, List.mem_append, List.mem_singleton]; exact fun h => h.elim hx fun e => hyx e.symm, by omega, rfl⟩
  · obtain rfl : i = n := by omega
    rw [hnl, List.take_length] at hx
    rw [if_neg hx]
    (repeat' (first | (apply Ab.K.ev; exact ev_) | (apply Ab.K.aops; first | (apply Xg.s; constructor) | (apply Ab.S.guardU; (case hd => rfl); (case hb => (exact ev_; done))) | apply Ab.S.guardG) | (apply Ab.K.aop; first | (apply Og.s; constructor)) | (apply Ab.K.gk; first | (apply Xg.s; constructor) | (apply Ab.gY; case hw => assumption) | (apply Ab.gNT; case hw => assumption) | (apply Ab.gNF; case hw => assumption) | ((first | apply Ab.gD | apply Ab.gDN); all_goals (intro _ _; (first | contradiction | (exfalso; omega) | skip)))) | (apply Ab.K.awp; first | (apply Xg.s; constructor)) | (apply Ab.K.at_; exact at_) | (apply Ab.K.acall; first | assumption | fail) | (apply Ab.Rg.mk; omega) | (apply Ab.Lt.mk; first | decide | (simp; done) | (simp; omega) | fail) | (apply Ab.Get.mk; first | rfl | first | rfl | (rw [Int.toNat_natCast]; exact g0)) | (apply Ab.Nm.mk; first | exact (show (([.slice A n c, .slice B m d] : List Value).drop 0).take 2 = [.slice A n c, .slice B m d] from rfl) | exact nrm_) | (apply Xg.s; constructor) | (apply Ab.asm; assumption) | rfl | infer_instance | decide))
    all_goals ((first | apply RetQ.ret | apply RetQ.normal); (case he => exact evr_); (case hg => rfl))
    all_goals first | rfl | exact Keeps.fr F (plR.nm rfl)
set_option maxHeartbeats 4000000 in
theorem hop11 {s : AHeap} {A B : Option Addr} {n c m d : Nat} {nodes : List Int} {L : List Kn} {a b : Int} (h : VAt s A B n c m d nodes L) :
    ACall Try.prog 11 [.agg #[.slice A n c, .slice B m d], .int .i64 a, .int .i64 b] s (.tuple #[.int .i64 (hopV nodes L a b), .int .i64 (hopE nodes L a b)]) s := by
  obtain ⟨ol, hL⟩ := h.l
  have hm : m ≤ 100000 := by have := h.mm; omega
  refine ACall.make Try.func11 rfl (by kernel_rfl) (by decide) rfl (fun N hN0 => ?_)
  have hT : Top N s := hN0
  have F1 : Fr (s.set N (.cells true 1 [.slice A n c, .slice B m d])) s [] := Fr.new (hT.free (Nat.le_refl _)) (Fr.refl _ _)
  have c22 : ∀ s : AHeap, ACall Try.prog 22 [.int .i64 b] s (.bool (decide (TP.Node b))) s := fun s => node15
  have c14 := check11 (a := a) (h.fr F1)

  by_cases hb : TP.Node b
  case neg =>
    have hE : hopE nodes L a b = 1 := hopE_node hb
    have hV : hopV nodes L a b = 0 := hop_bad (by rw [hE]; decide)
    rw [hE, hV]
    rw [decide_eq_false hb] at c22
    (repeat' (first | (apply Ab.K.ev; exact ev_) | (apply Ab.K.aops; first | (apply Xg.s; constructor) | (apply Ab.S.guardU; (case hd => rfl); (case hb => (exact ev_; done))) | apply Ab.S.guardG) | (apply Ab.K.aop; first | (apply Ab.O.boxA (l := [.slice A n c, .slice B m d]) N; (case hx => exact ev_); (case hid => exact hT.free (Nat.le_refl _))) | (apply Og.s; constructor)) | (apply Ab.K.gk; first | (apply Xg.s; constructor) | (apply Ab.gY; case hw => assumption) | (apply Ab.gNT; case hw => assumption) | (apply Ab.gNF; case hw => assumption) | ((first | apply Ab.gD | apply Ab.gDN); all_goals (intro _ _; (first | contradiction | (exfalso; omega) | skip)))) | (apply Ab.K.awp; first | (apply Xg.s; constructor)) | (apply Ab.K.at_; exact at_) | (apply Ab.K.acall; first | assumption | first | exact c22 _ | exact c14) | (apply Ab.Rg.mk; omega) | (apply Ab.Lt.mk; first | decide | (simp; done) | (simp; omega) | fail) | (apply Ab.Get.mk; first | rfl | rfl) | (apply Ab.Nm.mk; first | exact (show (([.slice A n c, .slice B m d] : List Value).drop 0).take 2 = [.slice A n c, .slice B m d] from rfl) | exact nrm_) | (apply Xg.s; constructor) | (apply Ab.asm; assumption) | rfl | infer_instance | decide))
    all_goals ((first | apply RetQ.ret | apply RetQ.normal); (case he => exact evr_); (case hg => rfl))
    all_goals first | rfl | (apply Keeps.fr; (case h => exact fr_); (case hv => exact plR.nm rfl))
  rw [decide_eq_true hb] at c22
  by_cases hck : chk nodes L a = 0
  case neg =>
    have hE : hopE nodes L a b = chk nodes L a := by unfold hopE; rw [if_pos hb, if_neg hck]
    have hV : hopV nodes L a b = 0 := hop_bad (by rw [hE]; exact hck)
    rw [hE, hV]
    (repeat' (first | (apply Ab.K.ev; exact ev_) | (apply Ab.K.aops; first | (apply Xg.s; constructor) | (apply Ab.S.guardU; (case hd => rfl); (case hb => (exact ev_; done))) | apply Ab.S.guardG) | (apply Ab.K.aop; first | (apply Ab.O.boxA (l := [.slice A n c, .slice B m d]) N; (case hx => exact ev_); (case hid => exact hT.free (Nat.le_refl _))) | (apply Og.s; constructor)) | (apply Ab.K.gk; first | (apply Xg.s; constructor) | (apply Ab.gY; case hw => assumption) | (apply Ab.gNT; case hw => assumption) | (apply Ab.gNF; case hw => assumption) | ((first | apply Ab.gD | apply Ab.gDN); all_goals (intro _ _; (first | contradiction | (exfalso; omega) | skip)))) | (apply Ab.K.awp; first | (apply Xg.s; constructor)) | (apply Ab.K.at_; exact at_) | (apply Ab.K.acall; first | assumption | first | exact c22 _ | exact c14) | (apply Ab.Rg.mk; omega) | (apply Ab.Lt.mk; first | decide | (simp; done) | (simp; omega) | fail) | (apply Ab.Get.mk; first | rfl | rfl) | (apply Ab.Nm.mk; first | exact (show (([.slice A n c, .slice B m d] : List Value).drop 0).take 2 = [.slice A n c, .slice B m d] from rfl) | exact nrm_) | (apply Xg.s; constructor) | (apply Ab.asm; assumption) | rfl | infer_instance | decide))
    all_goals ((first | apply RetQ.ret | apply RetQ.normal); (case he => exact evr_); (case hg => rfl))
    all_goals first | rfl | (apply Keeps.fr; (case h => exact fr_); (case hv => exact plR.nm rfl))
  obtain ⟨hMV, ha, hfo, hin⟩ := chk_zero hck
  rw [hck] at c14
  have bl : (bnd L).length ≤ 512 := by have := bnd_len hMV.2; have := h.mm; have := h.len; omega
  have c15 := bound09 (A := A) (n := n) (c := c) (o := N + 1) (hL.fr F1) hm hMV.2 (hT.new.none (Nat.le_refl _))
  obtain ⟨s2, hs2⟩ : ∃ s2, s2 = (s.set N (.cells true 1 [.slice A n c, .slice B m d])).set (N + 1) (.cells true 3 (ecs (bnd L))) := ⟨_, rfl⟩
  have F2 : Fr s2 s [] := by rw [hs2]; exact Fr.new (hT.free (by omega)) F1
  have T2 : Top (N + 2) s2 := by rw [hs2]; exact hT.new.new
  have hE2 := EA.own (s := s2) (q := N + 1) (l := bnd L) (by rw [hs2]; exact At.hit)
  have c16 := linked9 (a := a) (b := b) hE2 (Good.node hMV.good) (by omega)
  rw [hs2] at c16
  cases hlk : lkB (bnd L) a b
  · have hE : hopE nodes L a b = 9 := by unfold hopE; rw [if_pos hb, if_pos hck, if_neg (by rw [hlk]; simp)]
    have hV : hopV nodes L a b = 0 := hop_bad (by rw [hE]; decide)
    rw [hE, hV]
    rw [hlk] at c16
    (repeat' (first | (apply Ab.K.ev; exact ev_) | (apply Ab.K.aops; first | (apply Xg.s; constructor) | (apply Ab.S.guardU; (case hd => rfl); (case hb => (exact ev_; done))) | apply Ab.S.guardG) | (apply Ab.K.aop; first | (apply Ab.O.boxA (l := [.slice A n c, .slice B m d]) N; (case hx => exact ev_); (case hid => exact hT.free (Nat.le_refl _))) | (apply Og.s; constructor)) | (apply Ab.K.gk; first | (apply Xg.s; constructor) | (apply Ab.gY; case hw => assumption) | (apply Ab.gNT; case hw => assumption) | (apply Ab.gNF; case hw => assumption) | ((first | apply Ab.gD | apply Ab.gDN); all_goals (intro _ _; (first | contradiction | (exfalso; omega) | skip)))) | (apply Ab.K.awp; first | (apply Xg.s; constructor)) | (apply Ab.K.at_; exact at_) | (apply Ab.K.acall; first | assumption | first | exact c22 _ | exact c14 | exact c15 | exact c16) | (apply Ab.Rg.mk; omega) | (apply Ab.Lt.mk; first | decide | (simp; done) | (simp; omega) | fail) | (apply Ab.Get.mk; first | rfl | rfl) | (apply Ab.Nm.mk; first | exact (show (([.slice A n c, .slice B m d] : List Value).drop 0).take 2 = [.slice A n c, .slice B m d] from rfl) | exact nrm_) | (apply Xg.s; constructor) | (apply Ab.asm; assumption) | rfl | infer_instance | decide))
    all_goals ((first | apply RetQ.ret | apply RetQ.normal); (case he => exact evr_); (case hg => rfl))
    all_goals first | rfl | (rw [← hs2]; exact Keeps.fr F2 (plR.nm rfl))
  rw [hlk] at c16
  obtain ⟨p, hp⟩ := Way.ex (lkB_iff.1 hlk).2.2
  have hE : hopE nodes L a b = 0 := hop_ok.2 ⟨hb, hck, hlk⟩
  have hV : hopV nodes L a b = nxt (bnd L) a b := hopV_ok hE
  rw [hE, hV]
  have hnx := nxt_eq (hMV.cut hfo) hp
  by_cases hab : a = b
  · have hpa : p = [a] := by subst hab; exact (Way.one a).uniq (hMV.cut hfo) hp
    rw [hpa] at hnx
    have hnb : nxt (bnd L) a b = b := (Option.some.inj hnx).symm
    rw [hnb]
    (repeat' (first | (apply Ab.K.ev; exact ev_) | (apply Ab.K.aops; first | (apply Xg.s; constructor) | (apply Ab.S.guardU; (case hd => rfl); (case hb => (exact ev_; done))) | apply Ab.S.guardG) | (apply Ab.K.aop; first | (apply Ab.O.boxA (l := [.slice A n c, .slice B m d]) N; (case hx => exact ev_); (case hid => exact hT.free (Nat.le_refl _))) | (apply Og.s; constructor)) | (apply Ab.K.gk; first | (apply Xg.s; constructor) | (apply Ab.gY; case hw => assumption) | (apply Ab.gNT; case hw => assumption) | (apply Ab.gNF; case hw => assumption) | ((first | apply Ab.gD | apply Ab.gDN); all_goals (intro _ _; (first | contradiction | (exfalso; omega) | skip)))) | (apply Ab.K.awp; first | (apply Xg.s; constructor)) | (apply Ab.K.at_; exact at_) | (apply Ab.K.acall; first | assumption | first | exact c22 _ | exact c14 | exact c15 | exact c16) | (apply Ab.Rg.mk; omega) | (apply Ab.Lt.mk; first | decide | (simp; done) | (simp; omega) | fail) | (apply Ab.Get.mk; first | rfl | rfl) | (apply Ab.Nm.mk; first | exact (show (([.slice A n c, .slice B m d] : List Value).drop 0).take 2 = [.slice A n c, .slice B m d] from rfl) | exact nrm_) | (apply Xg.s; constructor) | (apply Ab.asm; assumption) | rfl | infer_instance | decide))
    all_goals ((first | apply RetQ.ret | apply RetQ.normal); (case he => exact evr_); (case hg => rfl))
    all_goals first | rfl | (rw [← hs2]; exact Keeps.fr F2 (plR.nm rfl))
  · have hp2 : 1 < p.length := by
      cases hp with
      | one => exact absurd rfl hab
      | cons _ _ r => obtain ⟨t, ht⟩ := r.head; rw [ht]; simp
    rw [List.getElem?_append_left hp2] at hnx
    have gn := ints_get hnx
    have c23 := way23 (o := N + 2) hE2 hMV.good (hMV.cut hfo) hp ha hb bl (T2.none (Nat.le_refl _))
    rw [hs2] at c23

    (repeat' (first | (apply Ab.K.ev; exact ev_) | (apply Ab.K.aops; first | (apply Xg.s; constructor) | (apply Ab.S.guardU; (case hd => rfl); (case hb => (exact ev_; done))) | apply Ab.S.guardG) | (apply Ab.K.aop; first | (apply Ab.O.boxA (l := [.slice A n c, .slice B m d]) N; (case hx => exact ev_); (case hid => exact hT.free (Nat.le_refl _))) | (apply Og.s; constructor)) | (apply Ab.K.gk; first | (apply Xg.s; constructor) | (apply Ab.gY; case hw => assumption) | (apply Ab.gNT; case hw => assumption) | (apply Ab.gNF; case hw => assumption) | ((first | apply Ab.gD | apply Ab.gDN); all_goals (intro _ _; (first | contradiction | (exfalso; omega) | skip)))) | (apply Ab.K.awp; first | (apply Xg.s; constructor)) | (apply Ab.K.at_; exact at_) | (apply Ab.K.acall; first | assumption | first | exact c22 _ | exact c14 | exact c15 | exact c16 | exact c23) | (apply Ab.Rg.mk; omega) | (apply Ab.Lt.mk; first | decide | (simp; done) | (simp; omega) | fail) | (apply Ab.Get.mk; first | rfl | first | rfl | exact gn) | (apply Ab.Nm.mk; first | exact (show (([.slice A n c, .slice B m d] : List Value).drop 0).take 2 = [.slice A n c, .slice B m d] from rfl) | exact nrm_) | (apply Xg.s; constructor) | (apply Ab.asm; assumption) | rfl | infer_instance | decide))
    all_goals ((first | apply RetQ.ret | apply RetQ.normal); (case he => exact evr_); (case hg => rfl))
    all_goals first | rfl | (rw [← hs2]; exact Keeps.fr (Fr.new (hT.free (by omega)) F2) (plR.nm rfl))

set_option maxHeartbeats 4000000 in
theorem leader11 {s : AHeap} {A B : Option Addr} {n c m d : Nat} {nodes : List Int} {L : List Kn} {a : Int} (h : VAt s A B n c m d nodes L) :
    ACall Try.prog 13 [.agg #[.slice A n c, .slice B m d], .int .i64 a] s (.tuple #[.int .i64 (ldr nodes L a), .int .i64 (chk nodes L a)]) s := by
  obtain ⟨ol, hL⟩ := h.l
  have hm : m ≤ 100000 := by have := h.mm; omega
  refine ACall.make Try.func13 rfl (by kernel_rfl) (by decide) rfl (fun N hN0 => ?_)
  have hT : Top N s := hN0
  have F1 : Fr (s.set N (.cells true 1 [.slice A n c, .slice B m d])) s [] := Fr.new (hT.free (Nat.le_refl _)) (Fr.refl _ _)
  have c14 := check11 (a := a) (h.fr F1)

  by_cases hck : chk nodes L a = 0
  case neg =>
    have hl : ldr nodes L a = 0 := ldr_no hck
    rw [hl]
    (repeat' (first | (apply Ab.K.ev; exact ev_) | (apply Ab.K.aops; first | (apply Xg.s; constructor) | (apply Ab.S.guardU; (case hd => rfl); (case hb => (exact ev_; done))) | apply Ab.S.guardG) | (apply Ab.K.aop; first | (apply Ab.O.boxA (l := [.slice A n c, .slice B m d]) N; (case hx => exact ev_); (case hid => exact hT.free (Nat.le_refl _))) | (apply Og.s; constructor)) | (apply Ab.K.gk; first | (apply Xg.s; constructor) | (apply Ab.gY; case hw => assumption) | (apply Ab.gNT; case hw => assumption) | (apply Ab.gNF; case hw => assumption) | ((first | apply Ab.gD | apply Ab.gDN); all_goals (intro _ _; (first | contradiction | (exfalso; omega) | skip)))) | (apply Ab.K.awp; first | (apply Xg.s; constructor)) | (apply Ab.K.at_; exact at_) | (apply Ab.K.acall; first | assumption | exact c14) | (apply Ab.Rg.mk; omega) | (apply Ab.Lt.mk; first | decide | (simp; done) | (simp; omega) | fail) | (apply Ab.Get.mk; first | rfl | rfl) | (apply Ab.Nm.mk; first | exact (show (([.slice A n c, .slice B m d] : List Value).drop 0).take 2 = [.slice A n c, .slice B m d] from rfl) | exact nrm_) | (apply Xg.s; constructor) | (apply Ab.asm; assumption) | rfl | infer_instance | decide))
    all_goals ((first | apply RetQ.ret | apply RetQ.normal); (case he => exact evr_); (case hg => rfl))
    all_goals first | rfl | (apply Keeps.fr; (case h => exact fr_); (case hv => exact plR.nm rfl))
  obtain ⟨hMV, ha, hfo, hin⟩ := chk_zero hck
  have hl : ldr nodes L a = (side (bnd L) a).headD 0 := ldr_ok hck
  rw [hck] at c14
  rw [hl, hck]
  have bl : (bnd L).length ≤ 512 := by have := bnd_len hMV.2; have := h.mm; have := h.len; omega
  have c15 := bound09 (A := A) (n := n) (c := c) (o := N + 1) (hL.fr F1) hm hMV.2 (hT.new.none (Nat.le_refl _))
  obtain ⟨s2, hs2⟩ : ∃ s2, s2 = (s.set N (.cells true 1 [.slice A n c, .slice B m d])).set (N + 1) (.cells true 3 (ecs (bnd L))) := ⟨_, rfl⟩
  have F2 : Fr s2 s [] := by rw [hs2]; exact Fr.new (hT.free (by omega)) F1
  have T2 : Top (N + 2) s2 := by rw [hs2]; exact hT.new.new
  have hE2 := EA.own (s := s2) (q := N + 1) (l := bnd L) (by rw [hs2]; exact At.hit)
  have c25 := linked14 (a := a) (o := N + 2) hE2 (Good.node hMV.good) bl (T2.none (Nat.le_refl _))
  rw [hs2] at c25
  have hh := side_head hMV.good ha
  have gh := ints_get hh
  have hpos : 0 < (side (bnd L) a).length := (List.getElem?_eq_some_iff.1 hh).1

  (repeat' (first | (apply Ab.K.ev; exact ev_) | (apply Ab.K.aops; first | (apply Xg.s; constructor) | (apply Ab.S.guardU; (case hd => rfl); (case hb => (exact ev_; done))) | apply Ab.S.guardG) | (apply Ab.K.aop; first | (apply Ab.O.boxA (l := [.slice A n c, .slice B m d]) N; (case hx => exact ev_); (case hid => exact hT.free (Nat.le_refl _))) | (apply Og.s; constructor)) | (apply Ab.K.gk; first | (apply Xg.s; constructor) | (apply Ab.gY; case hw => assumption) | (apply Ab.gNT; case hw => assumption) | (apply Ab.gNF; case hw => assumption) | ((first | apply Ab.gD | apply Ab.gDN); all_goals (intro _ _; (first | contradiction | (exfalso; omega) | skip)))) | (apply Ab.K.awp; first | (apply Xg.s; constructor)) | (apply Ab.K.at_; exact at_) | (apply Ab.K.acall; first | assumption | first | exact c14 | exact c15 | exact c25) | (apply Ab.Rg.mk; omega) | (apply Ab.Lt.mk; first | decide | (simp; done) | (simp; omega) | fail) | (apply Ab.Get.mk; first | rfl | first | rfl | exact gh) | (apply Ab.Nm.mk; first | exact (show (([.slice A n c, .slice B m d] : List Value).drop 0).take 2 = [.slice A n c, .slice B m d] from rfl) | exact nrm_) | (apply Xg.s; constructor) | (apply Ab.asm; assumption) | rfl | infer_instance | decide))
  all_goals ((first | apply RetQ.ret | apply RetQ.normal); (case he => exact evr_); (case hg => rfl))
  all_goals first | rfl | (rw [← hs2]; exact Keeps.fr (Fr.new (hT.free (by omega)) F2) (plR.nm rfl))
end Go.Proofs.Ytdbnpghckgmaoaa

/- routes: the next nodes to all others. -/
namespace Go.Proofs.Ytdbnpghckgmaoaa
set_option linter.unusedVariables false
set_option linter.unusedSimpArgs false
set_option linter.unusedSectionVars false
open Go.RowKit Ab TP VP
instance : HasTD Try.prog 40 ⟨.array 2 3, 2, 16, .agg #[.int .i64 0, .int .i64 0]⟩ := ⟨by kernel_rfl⟩
instance : HasTD Try.prog 37 ⟨.slice 40, 1, 24, .slice none 0 0⟩ := ⟨by kernel_rfl⟩

def pc (p : Int × Int) : List Value := [.int .i64 p.1, .int .i64 p.2]
def pcs (l : List (Int × Int)) : List Value := l.flatMap pc
theorem pcs_length (l : List (Int × Int)) : (pcs l).length = l.length * 2 := by
  unfold pcs
  induction l with
  | nil => rfl
  | cons e l ih => rw [List.flatMap_cons, List.length_append, ih, List.length_cons]; show 2 + _ = _; omega
theorem pcs_append (a b : List (Int × Int)) : pcs (a ++ b) = pcs a ++ pcs b := by simp [pcs]
theorem pcs_pl (l : List (Int × Int)) : (pcs l).all pl1 = true := by simp [pcs, pc, pl1, plA]
theorem pcs_get {l : List (Int × Int)} {i : Nat} {e : Int × Int} (h : l[i]? = some e) : ((pcs l).drop (i * 2)).take 2 = pc e := by
  induction l generalizing i with
  | nil => simp at h
  | cons f l ih =>
    cases i with
    | zero => simp at h; subst h; simp [pcs, pc]
    | succ i =>
      rw [List.getElem?_cons_succ] at h
      have e1 : (i + 1) * 2 = 2 + i * 2 := by omega
      have e2 : pcs (f :: l) = pc f ++ pcs l := by simp [pcs]
      rw [e1, e2, ← List.drop_drop, show (pc f ++ pcs l).drop 2 = pcs l from rfl]
      exact ih h
theorem pcs_cell {l : List (Int × Int)} {i : Nat} {e : Int × Int} (h : l[i]? = some e) (j : Nat) (hj : j < 2) : (pcs l)[i * 2 + j]? = (pc e)[j]? := by
  rw [← pcs_get h, List.getElem?_take, if_pos hj, List.getElem?_drop]
/-- The next nodes to those up to one. -/
noncomputable def tblN (nodes : List Int) (L : List Kn) (a : Int) : Nat → List (Int × Int)
  | 0 => []
  | k + 1 => tblN nodes L a k ++ if hopE nodes L a ((k + 1 : Nat) : Int) = 0 ∧ ((k + 1 : Nat) : Int) ≠ a then [(((k + 1 : Nat) : Int), hopV nodes L a ((k + 1 : Nat) : Int))] else []
theorem tblN_zero {nodes : List Int} {L : List Kn} {a : Int} : tblN nodes L a 0 = [] := rfl
theorem tblN_yes {nodes : List Int} {L : List Kn} {a : Int} {k : Nat} (h1 : hopE nodes L a ((k + 1 : Nat) : Int) = 0) (h2 : ((k + 1 : Nat) : Int) ≠ a) : tblN nodes L a (k + 1) = tblN nodes L a k ++ [(((k + 1 : Nat) : Int), hopV nodes L a ((k + 1 : Nat) : Int))] := by
  rw [tblN, if_pos ⟨h1, h2⟩]
theorem tblN_no {nodes : List Int} {L : List Kn} {a : Int} {k : Nat} (h : ¬ (hopE nodes L a ((k + 1 : Nat) : Int) = 0 ∧ ((k + 1 : Nat) : Int) ≠ a)) : tblN nodes L a (k + 1) = tblN nodes L a k := by
  rw [tblN, if_neg h, List.append_nil]
theorem tblN_len {nodes : List Int} {L : List Kn} {a : Int} : ∀ {k : Nat}, (tblN nodes L a k).length ≤ k
  | 0 => Nat.le_refl _
  | k + 1 => by
    have := tblN_len (nodes := nodes) (L := L) (a := a) (k := k)
    rw [tblN, List.length_append]
    split <;> simp <;> omega
theorem tblN_mem {nodes : List Int} {L : List Kn} {a : Int} {p : Int × Int} : ∀ {k : Nat}, p ∈ tblN nodes L a k → 1 ≤ p.1 ∧ p.1 ≤ k ∧ hopE nodes L a p.1 = 0 ∧ p.1 ≠ a
  | 0, h => by cases h
  | k + 1, h => by
    rw [tblN, List.mem_append] at h
    rcases h with h | h
    · have := tblN_mem h
      exact ⟨this.1, by omega, this.2.2⟩
    · split at h
      · rename_i h1
        rw [List.mem_singleton] at h; subst h
        exact ⟨by simp; omega, by simp, h1⟩
      · cases h
theorem tblN_pre {nodes : List Int} {L : List Kn} {a : Int} {k : Nat} : ∀ {j : Nat}, k ≤ j → ∃ t, tblN nodes L a j = tblN nodes L a k ++ t := by
  intro j
  induction j with
  | zero =>
    intro h
    obtain rfl : k = 0 := by omega
    exact ⟨[], (List.append_nil _).symm⟩
  | succ j ih =>
    intro h
    by_cases hk : k = j + 1
    · subst hk; exact ⟨[], (List.append_nil _).symm⟩
    · obtain ⟨t, ht⟩ := ih (by omega)
      obtain ⟨x, hx⟩ : ∃ x, tblN nodes L a (j + 1) = tblN nodes L a j ++ x := ⟨_, rfl⟩
      exact ⟨t ++ x, by rw [hx, ht, List.append_assoc]⟩
attribute [local irreducible] AOps AOpsD AOp AWp put nargs AHeap.set At Free ACall ACallE thenQ blockQ roundQ RetQ RetE Src Gr side lkN chk hopE hopV ldr nxt VP.bnd inn mvB reachB lkB foB tblN

theorem next_hop {s : AHeap} {C : Option Addr} {k cc : Nat} {oe : Option Nat} {nodes : List Int} {L : List Kn} {a b : Int} (hE : EA s (.slice C k cc) oe (bnd L)) (bl : k ≤ 512) (hck : chk nodes L a = 0) (hb : TP.Node b) :
    ACall Try.prog 21 [.slice C k cc, .int .i64 a, .int .i64 b] s (.tuple #[.int .i64 (hopV nodes L a b), .int .i64 (hopE nodes L a b)]) s := by
  obtain ⟨hMV, ha, hfo, hin⟩ := chk_zero hck
  have hok : wOk (bnd L) a b = true := wOk_iff.2 ⟨hMV.good, hfo, ha, hb⟩
  cases hlk : lkB (bnd L) a b
  · have hnc : ¬ Conn (bnd L) a b := fun hcn => by rw [lkB_iff.2 ⟨ha, hb, hcn⟩] at hlk; cases hlk
    have hE2 : hopE nodes L a b = 9 := by unfold hopE; rw [if_pos hb, if_pos hck, if_neg (by rw [hlk]; simp)]
    have hV : hopV nodes L a b = 0 := hop_bad (by rw [hE2]; decide)
    rw [hE2, hV]
    exact next12_err (by decide) (way11_none hE bl hok hnc)
  · obtain ⟨p, hp⟩ := Way.ex (lkB_iff.1 hlk).2.2
    have hE2 : hopE nodes L a b = 0 := hop_ok.2 ⟨hb, hck, hlk⟩
    rw [hE2, hopV_ok hE2]
    exact next12_yes (hp.short (Good.node hMV.good) ha) (by obtain ⟨t, ht⟩ := hp.head; rw [ht]; simp) (nxt_eq (hMV.cut hfo) hp) (fun o ho => way11_yes hE bl hok hp ho)

theorem table_no {s : AHeap} {A B : Option Addr} {n c m d : Nat} {nodes : List Int} {L : List Kn} {a : Int} (h : VAt s A B n c m d nodes L) (hck : chk nodes L a ≠ 0) :
    ACall Try.prog 17 [.agg #[.slice A n c, .slice B m d], .int .i64 a] s (.tuple #[.slice none 0 0, .int .i64 (chk nodes L a)]) s := by
  refine ACall.make Try.func17 rfl (by kernel_rfl) (by decide) rfl (fun N hN0 => ?_)
  have hT : Top N s := hN0
  have F1 : Fr (s.set N (.cells true 1 [.slice A n c, .slice B m d])) s [] := Fr.new (hT.free (Nat.le_refl _)) (Fr.refl _ _)
  have c19 := boundR_no (h.fr F1) hck

  (repeat' (first | (apply Ab.K.ev; exact ev_) | (apply Ab.K.aops; first | (apply Xg.s; constructor) | (apply Ab.S.guardU; (case hd => rfl); (case hb => (exact ev_; done))) | apply Ab.S.guardG) | (apply Ab.K.aop; first | (apply Ab.O.boxA (l := [.slice A n c, .slice B m d]) N; (case hx => exact ev_); (case hid => exact hT.free (Nat.le_refl _))) | (apply Og.s; constructor)) | (apply Ab.K.gk; first | (apply Xg.s; constructor) | (apply Ab.gY; case hw => assumption) | (apply Ab.gNT; case hw => assumption) | (apply Ab.gNF; case hw => assumption) | ((first | apply Ab.gD | apply Ab.gDN); all_goals (intro _ _; (first | contradiction | (exfalso; omega) | skip)))) | (apply Ab.K.awp; first | (apply Xg.s; constructor)) | (apply Ab.K.at_; exact at_) | (apply Ab.K.acall; first | assumption | exact c19) | (apply Ab.Rg.mk; omega) | (apply Ab.Lt.mk; first | decide | (simp; done) | (simp; omega) | fail) | (apply Ab.Get.mk; first | rfl | rfl) | (apply Ab.Nm.mk; first | exact (show (([.slice A n c, .slice B m d] : List Value).drop 0).take 2 = [.slice A n c, .slice B m d] from rfl) | exact nrm_) | (apply Xg.s; constructor) | (apply Ab.asm; assumption) | rfl | infer_instance | decide))
  all_goals ((first | apply RetQ.ret | apply RetQ.normal); (case he => exact evr_); (case hg => rfl))
  all_goals first | rfl | (apply Keeps.fr; (case h => exact fr_); (case hv => exact plR.nm rfl))

set_option maxHeartbeats 4000000 in
theorem table_yes {s : AHeap} {A B : Option Addr} {n c m d : Nat} {nodes : List Int} {L : List Kn} {a : Int} (h : VAt s A B n c m d nodes L) (hck : chk nodes L a = 0) :
    ACallE Try.prog 17 [.agg #[.slice A n c, .slice B m d], .int .i64 a] s (fun v s' => ∃ w, v = .tuple #[w, .int .i64 0] ∧ NewL s 2 w (tblN nodes L a 64).length (pcs (tblN nodes L a 64)) s') := by
  obtain ⟨hMV, ha, hfo, hin⟩ := chk_zero hck
  have bl : (bnd L).length ≤ 512 := by have := bnd_len hMV.2; have := h.mm; have := h.len; omega
  refine ACallE.make Try.func17 rfl (by kernel_rfl) (by decide) rfl (fun N hN0 => ?_)
  have hT : Top N s := hN0
  have F1 : Fr (s.set N (.cells true 1 [.slice A n c, .slice B m d])) s [] := Fr.new (hT.free (Nat.le_refl _)) (Fr.refl _ _)
  have c19 := boundR_yes (h.fr F1) hck
  (repeat' (first | (apply Ab.K.ev; exact ev_) | (apply Ab.K.aops; first | (apply Xg.s; constructor) | (apply Ab.S.guardU; (case hd => rfl); (case hb => (exact ev_; done))) | apply Ab.S.guardG) | (apply Ab.K.aop; first | (first | (apply Ab.O.boxA (l := [.slice A n c, .slice B m d]) N; (case hx => exact ev_); (case hid => exact hT.free (Nat.le_refl _))) | (apply Ab.O.callFE; (case ha => exact evs_); (case hc => exact c19))) | (apply Og.s; constructor)) | (apply Ab.K.gk; first | (apply Xg.s; constructor) | (apply Ab.gY; case hw => assumption) | (apply Ab.gNT; case hw => assumption) | (apply Ab.gNF; case hw => assumption) | ((first | apply Ab.gD | apply Ab.gDN); all_goals (intro _ _; (first | contradiction | (exfalso; omega) | skip)))) | (apply Ab.K.awp; first | (apply Xg.s; constructor)) | (apply Ab.K.at_; exact at_) | (apply Ab.K.acall; first | assumption | fail) | (apply Ab.Rg.mk; omega) | (apply Ab.Lt.mk; first | decide | (simp; done) | (simp; omega) | fail) | (apply Ab.Get.mk; first | rfl | rfl) | (apply Ab.Nm.mk; first | exact (show (([.slice A n c, .slice B m d] : List Value).drop 0).take 2 = [.slice A n c, .slice B m d] from rfl) | exact nrm_) | (apply Xg.s; constructor) | (apply Ab.asm; assumption) | rfl | infer_instance | decide))
  rintro v2 s2 ⟨w, rfl, hw⟩
  clear c19
  obtain ⟨M0, hM0, T0⟩ := hw.top (hT.new (b := .cells true 1 [.slice A n c, .slice B m d]))
  have F2 : Fr s2 s [] := fun i hi c hc => hw.fr i hi c (F1 i hi c hc)
  obtain ⟨C, cc, oe, rfl, hE⟩ := hw.ea rfl
  (repeat' (first | (apply Ab.K.ev; exact ev_) | (apply Ab.K.aops; first | (apply Xg.s; constructor) | (apply Ab.S.guardU; (case hd => rfl); (case hb => (exact ev_; done))) | apply Ab.S.guardG) | (apply Ab.K.aop; first | (apply Og.s; constructor)) | (apply Ab.K.gk; first | (apply Xg.s; constructor) | (apply Ab.gY; case hw => assumption) | (apply Ab.gNT; case hw => assumption) | (apply Ab.gNF; case hw => assumption) | ((first | apply Ab.gD | apply Ab.gDN); all_goals (intro _ _; (first | contradiction | (exfalso; omega) | skip)))) | (apply Ab.K.awp; first | (apply Xg.s; constructor)) | (apply Ab.K.at_; exact at_) | (apply Ab.K.acall; first | assumption | fail) | (apply Ab.Rg.mk; omega) | (apply Ab.Lt.mk; first | decide | (simp; done) | (simp; omega) | fail) | (apply Ab.Get.mk; first | rfl | rfl) | (apply Ab.Nm.mk; first | exact (show (([.slice A n c, .slice B m d] : List Value).drop 0).take 2 = [.slice A n c, .slice B m d] from rfl) | exact nrm_) | (apply Xg.s; constructor) | (apply Ab.asm; assumption) | rfl | infer_instance | decide))
  refine AWp.loop (fun kk tm s1 => ∃ (j k M : Nat) (v : Value) (ov : Option Nat) (r : List (Int × Int)), Ev tm (.tmp 1) (.int .i64 a) ∧ Ev tm (.tmp 6) (.slice C (bnd L).length cc) ∧ Ev tm (.tmp 8) v ∧ Ev tm (.tmp 9) (.int .i64 ((j + 1 : Nat) : Int)) ∧ EA s1 (.slice C (bnd L).length cc) oe (bnd L) ∧ (∀ q, oe = some q → q < M0) ∧ Gr s1 2 M0 v ov k (pcs r) ∧ k = r.length ∧ r = tblN nodes L a j ∧ Fr s1 s [] ∧ Top M s1 ∧ M0 ≤ M ∧ j ≤ 64 ∧ kk = 64 - j) 64 ?_ ?_
  · exact ⟨0, 0, M0, _, _, [], by exact ev_, by exact ev_, by exact ev_, by exact ev_, hE, hE.lt T0, Gr.nil, rfl, tblN_zero.symm, F2, T0, Nat.le_refl _, by omega, rfl⟩
  clear hE F2 hw T0
  rintro kk tm s1 ⟨j, k, M, v, ov, r, e1, e6, e8, e9, hE, hEM, G, hk, hr, F, T, hMM, hj, hkk⟩
  have hlt := G.lt T
  have hge := G.from_
  have hrl : k ≤ 64 := by rw [hk, hr]; exact Nat.le_trans tblN_len hj
  by_cases hjn : j < 64
  · have c21 := next_hop (b := ((j + 1 : Nat) : Int)) hE bl hck ⟨by omega, by omega⟩
    by_cases hh : hopE nodes L a ((j + 1 : Nat) : Int) = 0 ∧ ((j + 1 : Nat) : Int) ≠ a
    · obtain ⟨h1, h2⟩ := hh
      have hr1 := tblN_yes h1 h2
      rw [← hr] at hr1
      rw [h1] at c21
      (repeat' (first | (apply Ab.K.ev; exact ev_) | (apply Ab.K.aops; first | (apply Xg.s; constructor) | (apply Ab.S.guardU; (case hd => rfl); (case hb => (exact ev_; done))) | apply Ab.S.guardG) | (apply Ab.K.aop; first | (apply Ab.O.build1A M; (case hx => exact ev_); (case hl => rfl); (case hz => exact ⟨rfl, rfl⟩); (case hes => decide); (case hid => exact T.free (Nat.le_refl _))) | (apply Og.s; constructor)) | (apply Ab.K.gk; first | (apply Xg.s; constructor) | (apply Ab.gY; case hw => assumption) | (apply Ab.gNT; case hw => assumption) | (apply Ab.gNF; case hw => assumption) | ((first | apply Ab.gD | apply Ab.gDN); all_goals (intro _ _; (first | contradiction | (exfalso; omega) | skip)))) | (apply Ab.K.awp; first | (apply Xg.s; constructor)) | (apply Ab.K.at_; exact at_) | (apply Ab.K.acall; first | assumption | exact c21) | (apply Ab.Rg.mk; omega) | (apply Ab.Lt.mk; first | decide | (simp; done) | (simp; omega) | fail) | (apply Ab.Get.mk; first | rfl | rfl) | (apply Ab.Nm.mk; first | exact (show (([.slice A n c, .slice B m d] : List Value).drop 0).take 2 = [.slice A n c, .slice B m d] from rfl) | exact nrm_) | (apply Xg.s; constructor) | (apply Ab.asm; assumption) | rfl | infer_instance | decide))
      have G4 := G.set (id := M) (b := .cells true 2 (pc (((j + 1 : Nat) : Int), hopV nodes L a ((j + 1 : Nat) : Int)))) (fun q e => by have := hlt q e; omega)
      clear G
      (apply Ab.O.appendL (M + 1); (case hx => exact ev_); (case hL => exact Ab.Gr.lat (by assumption)); (case hy => exact ev_); (case hs => exact srcAll At.hit rfl); (case hk => rfl); (case hm => decide); (case hl => first | rfl | simp); (case hz => decide); (case hb => omega); (case hfree => exact free_))
      intro s4 g
      have T5 := G4.topN g T.new
      have F5 := G4.frN g (Fr.new (hT.free (by omega)) F) (hT.mono (by omega))
      have hE5 : EA s4 (.slice C (bnd L).length cc) oe (bnd L) := hE.of_at fun o ho => by
        have := hEM o ho
        rw [g.off o (fun e => by have := hge o e; omega) (by omega), AHeap.set_other _ _ (by omega)]
      have hpa : pcs r ++ pc (((j + 1 : Nat) : Int), hopV nodes L a ((j + 1 : Nat) : Int)) = pcs (tblN nodes L a (j + 1)) := by rw [hr1, pcs_append]; simp [pcs]
      have g' := g
      rw [show ([Value.int .i64 ((j + 1 : Nat) : Int), .int .i64 (hopV nodes L a ((j + 1 : Nat) : Int))] : List Value) = pc (((j + 1 : Nat) : Int), hopV nodes L a ((j + 1 : Nat) : Int)) from rfl, hpa] at g'
      have G5 : Gr s4 2 M0 _ _ (k + 1) _ := Gr.app g' (by rw [pcs_length, hr1, List.length_append, hk]; rfl) (by omega)
      (repeat' (first | (apply Ab.K.ev; exact ev_) | (apply Ab.K.aops; first | (apply Xg.s; constructor) | (apply Ab.S.guardU; (case hd => rfl); (case hb => (exact ev_; done))) | apply Ab.S.guardG) | (apply Ab.K.aop; first | (apply Og.s; constructor)) | (apply Ab.K.gk; first | (apply Xg.s; constructor) | (apply Ab.gY; case hw => assumption) | (apply Ab.gNT; case hw => assumption) | (apply Ab.gNF; case hw => assumption) | ((first | apply Ab.gD | apply Ab.gDN); all_goals (intro _ _; (first | contradiction | (exfalso; omega) | skip)))) | (apply Ab.K.awp; first | (apply Xg.s; constructor)) | (apply Ab.K.at_; exact at_) | (apply Ab.K.acall; first | assumption | exact c21) | (apply Ab.Rg.mk; omega) | (apply Ab.Lt.mk; first | decide | (simp; done) | (simp; omega) | fail) | (apply Ab.Get.mk; first | rfl | rfl) | (apply Ab.Nm.mk; first | exact (show (([.slice A n c, .slice B m d] : List Value).drop 0).take 2 = [.slice A n c, .slice B m d] from rfl) | exact nrm_) | (apply Xg.s; constructor) | (apply Ab.asm; assumption) | rfl | infer_instance | decide))
      exact X.roundN (64 - (j + 1)) (by omega) ⟨j + 1, k + 1, M + 2, _, _, _, by exact ev_, by exact ev_, by exact ev_, by exact ev_, hE5, hEM, G5, by rw [hr1, List.length_append, hk]; rfl, rfl, F5, T5, by omega, by omega, rfl⟩
    · have hr1 := tblN_no hh
      rw [← hr] at hr1
      by_cases h1 : hopE nodes L a ((j + 1 : Nat) : Int) = 0
      · have h2 : ((j + 1 : Nat) : Int) = a := by
          by_cases h2 : ((j + 1 : Nat) : Int) = a
          · exact h2
          · exact absurd ⟨h1, h2⟩ hh
        rw [h1] at c21
        (repeat' (first | (apply Ab.K.ev; exact ev_) | (apply Ab.K.aops; first | (apply Xg.s; constructor) | (apply Ab.S.guardU; (case hd => rfl); (case hb => (exact ev_; done))) | apply Ab.S.guardG) | (apply Ab.K.aop; first | (apply Og.s; constructor)) | (apply Ab.K.gk; first | (apply Xg.s; constructor) | (apply Ab.gY; case hw => assumption) | (apply Ab.gNT; case hw => assumption) | (apply Ab.gNF; case hw => assumption) | ((first | apply Ab.gD | apply Ab.gDN); all_goals (intro _ _; (first | contradiction | (exfalso; omega) | skip)))) | (apply Ab.K.awp; first | (apply Xg.s; constructor)) | (apply Ab.K.at_; exact at_) | (apply Ab.K.acall; first | assumption | exact c21) | (apply Ab.Rg.mk; omega) | (apply Ab.Lt.mk; first | decide | (simp; done) | (simp; omega) | fail) | (apply Ab.Get.mk; first | rfl | rfl) | (apply Ab.Nm.mk; first | exact (show (([.slice A n c, .slice B m d] : List Value).drop 0).take 2 = [.slice A n c, .slice B m d] from rfl) | exact nrm_) | (apply Xg.s; constructor) | (apply Ab.asm; assumption) | rfl | infer_instance | decide))
        exact X.roundN (64 - (j + 1)) (by omega) ⟨j + 1, k, M, v, ov, r, by exact ev_, by exact ev_, by exact ev_, by exact ev_, hE, hEM, G, hk, hr1.symm, F, T, by omega, by omega, rfl⟩
      · (repeat' (first | (apply Ab.K.ev; exact ev_) | (apply Ab.K.aops; first | (apply Xg.s; constructor) | (apply Ab.S.guardU; (case hd => rfl); (case hb => (exact ev_; done))) | apply Ab.S.guardG) | (apply Ab.K.aop; first | (apply Og.s; constructor)) | (apply Ab.K.gk; first | (apply Xg.s; constructor) | (apply Ab.gY; case hw => assumption) | (apply Ab.gNT; case hw => assumption) | (apply Ab.gNF; case hw => assumption) | ((first | apply Ab.gD | apply Ab.gDN); all_goals (intro _ _; (first | contradiction | (exfalso; omega) | skip)))) | (apply Ab.K.awp; first | (apply Xg.s; constructor)) | (apply Ab.K.at_; exact at_) | (apply Ab.K.acall; first | assumption | exact c21) | (apply Ab.Rg.mk; omega) | (apply Ab.Lt.mk; first | decide | (simp; done) | (simp; omega) | fail) | (apply Ab.Get.mk; first | rfl | rfl) | (apply Ab.Nm.mk; first | exact (show (([.slice A n c, .slice B m d] : List Value).drop 0).take 2 = [.slice A n c, .slice B m d] from rfl) | exact nrm_) | (apply Xg.s; constructor) | (apply Ab.asm; assumption) | rfl | infer_instance | decide))
        exact X.roundN (64 - (j + 1)) (by omega) ⟨j + 1, k, M, v, ov, r, by exact ev_, by exact ev_, by exact ev_, by exact ev_, hE, hEM, G, hk, hr1.symm, F, T, by omega, by omega, rfl⟩
  · obtain rfl : j = 64 := by omega
    obtain ⟨s', hs', _, hkeep⟩ := G.newL F (hT.mono (by omega)) (pcs_pl _)
    have hq : ∃ w, Value.tuple #[v, .int .i64 0] = .tuple #[w, .int .i64 0] ∧ NewL s 2 w (tblN nodes L a 64).length (pcs (tblN nodes L a 64)) s' := ⟨v, rfl, by rw [← hr, ← hk]; exact hs'⟩
    have hk0 := hkeep .i64 0
    rcases hs'.val with rfl | ⟨u, rfl⟩
    all_goals
      (repeat' (first | (apply Ab.K.ev; exact ev_) | (apply Ab.K.aops; first | (apply Xg.s; constructor) | (apply Ab.S.guardU; (case hd => rfl); (case hb => (exact ev_; done))) | apply Ab.S.guardG) | (apply Ab.K.aop; first | (apply Og.s; constructor)) | (apply Ab.K.gk; first | (apply Xg.s; constructor) | (apply Ab.gY; case hw => assumption) | (apply Ab.gNT; case hw => assumption) | (apply Ab.gNF; case hw => assumption) | ((first | apply Ab.gD | apply Ab.gDN); all_goals (intro _ _; (first | contradiction | (exfalso; omega) | skip)))) | (apply Ab.K.awp; first | (apply Xg.s; constructor)) | (apply Ab.K.at_; exact at_) | (apply Ab.K.acall; first | assumption | exact c21) | (apply Ab.Rg.mk; omega) | (apply Ab.Lt.mk; first | decide | (simp; done) | (simp; omega) | fail) | (apply Ab.Get.mk; first | rfl | rfl) | (apply Ab.Nm.mk; first | exact (show (([.slice A n c, .slice B m d] : List Value).drop 0).take 2 = [.slice A n c, .slice B m d] from rfl) | exact nrm_) | (apply Xg.s; constructor) | (apply Ab.asm; assumption) | rfl | infer_instance | decide))
      all_goals ((first | apply RetE.ret | apply RetE.normal); (case he => exact evr_); (case hg => rfl))
      · exact hq
      · exact hk0
end Go.Proofs.Ytdbnpghckgmaoaa
