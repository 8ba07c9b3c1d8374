/- trees: all behind a node, the program's. -/
import Derived.Test.YtnbgeodignljfaaUD
import Derived.Test.YtnbgeodignljfaaTH
import Derived.Test.YtnbgeodignljfaaTO
namespace Go.Proofs.Ytnbgeodignljfaa
set_option linter.unusedVariables false
set_option linter.unusedSimpArgs false
set_option linter.unusedSectionVars false
open Go.RowKit Ab TP
attribute [local irreducible] AOps AOpsD AOp AWp put nargs AHeap.set At Free ACall ACallE thenQ blockQ roundQ RetQ RetE Src bsn Gr
theorem below35 {s : AHeap} {I W q : Nat} {rw1 : Bool} {p : List Int} {e : E} {a y : Int} (hI : At s I (.cells true 1 [.int .i64 a])) (hw : At s W (.cells true 1 [.slice (some ⟨q, 0, none⟩) p.length p.length])) (hq : At s q (.cells rw1 1 (ints p))) (hy : p[1]? = some y) :
    ACall Try.prog 35 (.agg (ec e).toArray :: #[Value.pointer (some ⟨I, 0, none⟩), .pointer (some ⟨W, 0, none⟩)].toList) s (.bool (decide (other e a = y))) s := by
  refine ACall.make Try.func35 rfl (by kernel_rfl) (by decide) rfl (fun N hN => ?_)
  have hT : Top N s := hN
  have hWN := hT.lt hw
  have hIN := hT.lt hI
  have hqN := hT.lt hq
  have hyl := (List.getElem?_eq_some_iff.1 hy).1
  have gy := ints_get hy
  have c36 : ∀ s : AHeap, ACall Try.prog 36 [.agg (ec e).toArray, .int .i64 a] s (.int .i64 (other e a)) s := fun s => other36





  (repeat' (first | (apply Ab.K.ev; exact ev_) | (apply Ab.K.aops; first | (apply Xg.s; constructor) | (apply Ab.S.guardU; (case hd => rfl); (case hb => (exact ev_; done))) | apply Ab.S.guardG) | (apply Ab.K.aop; first | (apply Ab.O.boxA (N + 0); (case hx => exact ev_); (case hid => exact frees_)) | (apply Og.s; constructor)) | (apply Ab.K.gk; first | (apply Xg.s; constructor) | (apply Ab.gY; case hw => assumption) | (apply Ab.gNT; case hw => assumption) | (apply Ab.gNF; case hw => assumption) | ((first | apply Ab.gD | apply Ab.gDN); all_goals (intro _ _; (first | contradiction | (exfalso; omega) | skip)))) | (apply Ab.K.aopsD; first | (apply Ab.D.q0t; (case hw => rfl); (case hot => rfl)) | (apply Ab.D.w1t; (case hw => rfl); (case hot => rfl)) | (apply Ab.D.q0; (case hw => rfl); intro _ _) | (apply Ab.D.w1n; (case hw => rfl); intro _ _) | (apply Ab.D.w2n; (case hw => rfl); intro _ _) | (apply Xg.s; constructor) | fail | apply Ab.D.guardG) | exact ⟨rfl, rfl⟩ | (apply Ab.K.awp; first | (apply AWp.draw (id := 1) [[], [], [0, 1], [], [3], [3, 4], [0, 1, 2, 3, 4, 5], [0, 1, 2, 3, 4, 5, 6]] [] (by kernel_rfl) (by kernel_rfl) (by simp [apartW, unordB, cC] <;> omega)) | (apply Xg.s; constructor)) | (apply Ab.K.at_; exact at_) | (apply Ab.K.acall; first | assumption | exact c36 _) | (apply Ab.Rg.mk; omega) | (apply Ab.Lt.mk; first | decide | (simp; done) | (simp; omega) | first | omega | (show (0 + 3 : Nat) < 3 + 1; decide)) | (apply Ab.Get.mk; first | rfl | first | rfl | exact gy) | (apply Ab.Nm.mk; first | first | exact (show ((ec e).drop 0).take 3 = ec e from rfl) | exact nrm_) | (apply Xg.s; constructor) | (apply Ab.asm; assumption) | rfl | infer_instance | decide))
  all_goals ((first | apply RetQ.ret | apply RetQ.normal); (case he => exact evr_); (case hg => rfl))
  all_goals first | rfl | (apply Keeps.fr; (case h => exact fr_); (case hv => exact plR.nm rfl))


theorem below16_err {s : AHeap} {v : Value} {x root a : Int} (hx : x ≠ 0) (c11 : ∀ s1 : AHeap, Fr s1 s [] → ACall Try.prog 11 [v, .int .i64 a, .int .i64 root] s1 (.tuple #[.slice none 0 0, .int .i64 x]) s1) :
    ACall Try.prog 16 [v, .int .i64 root, .int .i64 a] s (.tuple #[.slice none 0 0, .int .i64 x]) s := by
  refine ACall.make Try.func16 rfl (by kernel_rfl) (by decide) rfl (fun N hN => ?_)
  have hT : Top N s := hN
  have c1 := c11 (s.set N (.cells true 1 [.int .i64 a])) (Fr.new (hT.free (Nat.le_refl _)) (Fr.refl _ _))

  (repeat' (first | (apply Ab.K.ev; exact ev_) | (apply Ab.K.aops; first | (apply Xg.s; constructor) | (apply Ab.S.guardU; (case hd => rfl); (case hb => (exact ev_; done))) | apply Ab.S.guardG) | (apply Ab.K.aop; first | (first | (apply Ab.O.alloc1 (N + 1); (case hid => exact frees_); (case hp => rfl)) | (apply Ab.O.box1 N; (case hx => exact ev_); (case hid => exact hT.free (Nat.le_refl _)); (case hv => rfl); (case hn => rfl))) | (apply Og.s; constructor)) | (apply Ab.K.gk; first | (apply Xg.s; constructor) | (apply Ab.gY; case hw => assumption) | (apply Ab.gNT; case hw => assumption) | (apply Ab.gNF; case hw => assumption) | ((first | apply Ab.gD | apply Ab.gDN); all_goals (intro _ _; (first | contradiction | (exfalso; omega) | skip)))) | (apply Ab.K.awp; first | (apply Xg.s; constructor)) | (apply Ab.K.at_; exact at_) | (apply Ab.K.acall; first | assumption | exact c1) | (apply Ab.Rg.mk; omega) | (apply Ab.Lt.mk; first | decide | (simp; done) | (simp; omega) | first | omega | (show (0 + 3 : Nat) < 3 + 1; decide)) | (apply Ab.Get.mk; first | rfl | first | rfl | exact gy) | (apply Ab.Nm.mk; first | first | exact (show ((ec e).drop 0).take 3 = ec e from rfl) | exact nrm_) | (apply Xg.s; constructor) | (apply Ab.asm; assumption) | rfl | infer_instance | decide))
  all_goals ((first | apply RetQ.ret | apply RetQ.normal); (case he => exact evr_); (case hg => rfl))
  all_goals first | rfl | (apply Keeps.fr; (case h => exact fr_); (case hv => exact plR.nm rfl))

theorem bel_self {l : List E} {a : Int} (ha : TP.Node a) : bel l a a = side l a := by
  unfold bel side
  refine lkN_congr fun i h1 h2 => ?_
  rw [Bool.eq_iff_iff, belB_iff, reachB_iff]
  constructor
  · rintro ⟨_, p, hp, _⟩
    exact ⟨ha, hp.conn⟩
  · rintro ⟨_, hc⟩
    obtain ⟨p, hp⟩ := Way.ex hc
    exact ⟨ha, p, hp, hp.mem_first⟩
theorem bel_rm {l : List E} (hc : Cut l) {a root w1 : Int} {t : List Int} (ha : TP.Node a) (hr : TP.Node root) (hw : TP.Way l a root (a :: w1 :: t)) {e : E} (he : e ∈ l) (hh : e.has a w1) : bel l root a = side (rm l e) a := by
  unfold bel side
  refine lkN_congr fun i h1 h2 => ?_
  rw [Bool.eq_iff_iff, belB_iff, reachB_iff]
  constructor
  · rintro ⟨_, p, hp, hm⟩
    exact ⟨ha, (below_iff hc hw he hh hp).1 hm⟩
  · rintro ⟨_, hcn⟩
    obtain ⟨p, hp⟩ := Way.ex (hw.conn.symm.trans (hcn.mono rm_sub))
    exact ⟨hr, p, hp, (below_iff hc hw he hh hp).2 hcn⟩
theorem below16_self {s : AHeap} {A : Option Addr} {n c : Nat} {on : Option Nat} {l : List E} {a : Int} {o : Nat} (h : EA s (.slice A n c) on l) (hn : n ≤ 512) (hok : wOk l a a = true) (ho : s o = none) :
    ACall Try.prog 16 [.slice A n c, .int .i64 a, .int .i64 a] s (.tuple #[.slice (some ⟨o, 0, none⟩) (side l a).length (side l a).length, .int .i64 0]) (s.set o (.cells true 1 (ints (side l a)))) := by
  obtain ⟨hg, hf, ha, _⟩ := wOk_iff.1 hok
  refine ACall.make Try.func16 rfl (by kernel_rfl) (by decide) rfl (fun N hN => ?_)
  have hT : Top N s := hN
  obtain ⟨s1, hs1⟩ : ∃ s1, s1 = s.set N (.cells true 1 [.int .i64 a]) := ⟨_, rfl⟩
  have T1 : Top (N + 1) s1 := by rw [hs1]; exact hT.new
  have F1 : Fr s1 s [] := by rw [hs1]; exact Fr.new (hT.free (Nat.le_refl _)) (Fr.refl _ _)
  have c1 := way11_yes (o := N + 1) (h.fr F1) hn hok (.one a) (T1.none (Nat.le_refl _))
  obtain ⟨s2, hs2⟩ : ∃ s2, s2 = ((s1.set (N + 1) (.cells true 1 (ints [a]))).set (N + 2) (.cells true 1 [.slice none 0 0])).set (N + 2) (.cells true 1 [.slice (some ⟨N + 1, 0, none⟩) 1 1]) := ⟨_, rfl⟩
  have T2 : Top (N + 3) s2 := by rw [hs2, AHeap.set_set]; exact T1.new.new
  have F2 : Fr s2 s [] := by rw [hs2, AHeap.set_set]; exact Fr.new (hT.free (by omega)) (Fr.new (hT.free (by omega)) F1)
  have c34 := linked34 (o := N + 3) (h.fr F2) hg ha hn (T2.none (Nat.le_refl _))
  rw [hs2, hs1] at c34
  rw [hs1] at c1

  (repeat' (first | (apply Ab.K.ev; exact ev_) | (apply Ab.K.aops; first | (apply Xg.s; constructor) | (apply Ab.S.guardU; (case hd => rfl); (case hb => (exact ev_; done))) | apply Ab.S.guardG) | (apply Ab.K.aop; first | (first | (apply Ab.O.alloc1 (N + 2); (case hid => exact frees_); (case hp => rfl)) | (apply Ab.O.box1 N; (case hx => exact ev_); (case hid => exact hT.free (Nat.le_refl _)); (case hv => rfl); (case hn => rfl))) | (apply Og.s; constructor)) | (apply Ab.K.gk; first | (apply Xg.s; constructor) | (apply Ab.gY; case hw => assumption) | (apply Ab.gNT; case hw => assumption) | (apply Ab.gNF; case hw => assumption) | ((first | apply Ab.gD | apply Ab.gDN); all_goals (intro _ _; (first | contradiction | (exfalso; omega) | skip)))) | (apply Ab.K.awp; first | (apply Xg.s; constructor)) | (apply Ab.K.at_; exact at_) | (apply Ab.K.acall; first | assumption | first | exact c1 | exact c34) | (apply Ab.Rg.mk; omega) | (apply Ab.Lt.mk; first | decide | (simp; done) | (simp; omega) | first | omega | (show (0 + 3 : Nat) < 3 + 1; decide)) | (apply Ab.Get.mk; first | rfl | first | rfl | exact gy) | (apply Ab.Nm.mk; first | first | exact (show ((ec e).drop 0).take 3 = ec e from rfl) | exact nrm_) | (apply Xg.s; constructor) | (apply Ab.asm; assumption) | rfl | infer_instance | decide))
  rw [← hs1, ← hs2]
  apply RetQ.retR (renL (dn [(o, N + 3, .cells true 1 (ints (side l a)))]))
  (case he => exact evr_)
  (case hg => rfl)
  · simp [resV, mpR, mpB, mp1, mpA, renL_hit]
  · exact KeepsR.new1 ho (hT.none (by omega)) (Fr.new (hT.free (by omega)) F2) At.hit (ints_pl _) (by simp [nmR, nmB, nm1, nmA])
  · simp

set_option maxHeartbeats 4000000 in
theorem below16_yes {s : AHeap} {A : Option Addr} {n c : Nat} {on : Option Nat} {l : List E} {root a w1 : Int} {t : List Int} {e : E} {o : Nat} (h : EA s (.slice A n c) on l) (hn : n ≤ 512) (hok : wOk l a root = true) (hw : TP.Way l a root (a :: w1 :: t)) (he : e ∈ l) (hh : e.has a w1) (hne : a ≠ root) (ho : s o = none) :
    ACall Try.prog 16 [.slice A n c, .int .i64 root, .int .i64 a] s (.tuple #[.slice (some ⟨o, 0, none⟩) (side (rm l e) a).length (side (rm l e) a).length, .int .i64 0]) (s.set o (.cells true 1 (ints (side (rm l e) a)))) := by
  obtain ⟨hg, hf, ha, hr⟩ := wOk_iff.1 hok
  have hnl : n = l.length := by obtain ⟨_, _, e⟩ := h.isl; injection e
  have hw1 := hw.nodes (Good.node hg) ha w1 (by simp)
  have hlw := hw.short (Good.node hg) ha
  obtain ⟨p, hp⟩ : ∃ p, p = a :: w1 :: t := ⟨_, rfl⟩
  have hp1 : p[1]? = some w1 := by rw [hp]; rfl
  rw [← hp] at hw hlw
  rcases h.addr with rfl | ⟨q0, rfl⟩
  · obtain ⟨_, _, rfl⟩ := h.nil_len; cases he
  refine ACall.make Try.func16 rfl (by kernel_rfl) (by decide) rfl (fun N hN => ?_)
  have hT : Top N s := hN
  obtain ⟨s1, hs1⟩ : ∃ s1, s1 = s.set N (.cells true 1 [.int .i64 a]) := ⟨_, rfl⟩
  have T1 : Top (N + 1) s1 := by rw [hs1]; exact hT.new
  have F1 : Fr s1 s [] := by rw [hs1]; exact Fr.new (hT.free (Nat.le_refl _)) (Fr.refl _ _)
  have c1 := way11_yes (o := N + 1) (h.fr F1) hn hok hw (T1.none (Nat.le_refl _))
  obtain ⟨s2, hs2⟩ : ∃ s2, s2 = ((s1.set (N + 1) (.cells true 1 (ints p))).set (N + 2) (.cells true 1 [.slice none 0 0])).set (N + 2) (.cells true 1 [.slice (some ⟨N + 1, 0, none⟩) p.length p.length]) := ⟨_, rfl⟩
  have T2 : Top (N + 3) s2 := by rw [hs2, AHeap.set_set]; exact T1.new.new
  have F2 : Fr s2 s [] := by rw [hs2, AHeap.set_set]; exact Fr.new (hT.free (by omega)) (Fr.new (hT.free (by omega)) F1)
  have c32 := clone32 (h.fr F2) hn (T2.none (Nat.le_refl _))
  obtain ⟨s3, hs3⟩ : ∃ s3, s3 = s2.set (N + 3) (.cells true 3 (ecs l)) := ⟨_, rfl⟩
  have F3 : Fr s3 s [] := by rw [hs3]; exact Fr.new (hT.free (by omega)) F2
  have T3 : Top (N + 4) s3 := by rw [hs3]; exact T2.new
  have aI : At s3 N (.cells true 1 [.int .i64 a]) := by rw [hs3, hs2, hs1]; exact at_
  have aP : At s3 (N + 1) (.cells true 1 (ints p)) := by rw [hs3, hs2]; exact at_
  have aW : At s3 (N + 2) (.cells true 1 [.slice (some ⟨N + 1, 0, none⟩) p.length p.length]) := by rw [hs3, hs2]; exact at_
  have aq : At s3 (N + 3) (.cells true 3 (ecs l)) := by rw [hs3]; exact At.hit
  have c31 := deleteF31 (fn := 35) (caps := #[.pointer (some ⟨N, 0, none⟩), .pointer (some ⟨N + 2, 0, none⟩)]) (b := fun e => decide (other e a = w1)) aq hnl hn (fun s4 f F4 _ => below35 (At.var (F4 N (by simp) _ aI.eq)) (At.var (F4 (N + 2) (by simp) _ aW.eq)) (At.var (F4 (N + 1) (by simp) _ aP.eq)) hp1)
  have hkr : keepF (fun e => decide (other e a = w1)) l = rm l e := by
    unfold keepF rm
    refine List.filter_congr fun f hf => ?_
    rw [Bool.eq_iff_iff, Bool.not_eq_true', decide_eq_false_iff_not, decide_eq_true_iff]
    refine not_congr ⟨fun h1 => ?_, fun h1 => ?_⟩
    · have h2 : f.has a w1 := by rw [← h1]; exact other_has (by rw [h1]; have := hw1.1; omega)
      exact hg.eq hf he h2 hh
    · rw [h1]; exact has_other (hg.1 e he) hh
  rw [hkr] at c31
  have hnr : ¬ (a = root) := hne
  rw [hs3, hs2, hs1] at c31
  rw [hs2, hs1] at c32
  rw [hs1] at c1

  (repeat' (first | (apply Ab.K.ev; exact ev_) | (apply Ab.K.aops; first | (apply Xg.s; constructor) | (apply Ab.S.guardU; (case hd => rfl); (case hb => (exact ev_; done))) | apply Ab.S.guardG) | (apply Ab.K.aop; first | (first | (apply Ab.O.alloc1 (N + 2); (case hid => exact frees_); (case hp => rfl)) | (apply Ab.O.box1 N; (case hx => exact ev_); (case hid => exact hT.free (Nat.le_refl _)); (case hv => rfl); (case hn => rfl)) | (apply Ab.O.makeFunc; (case h1 => exact evs_); (case h2 => exact evs_); (case a1 => rfl); (case a2 => rfl)) | (apply Ab.O.callFE; (case ha => exact evs_); (case hc => exact c31))) | (apply Og.s; constructor)) | (apply Ab.K.gk; first | (apply Xg.s; constructor) | (apply Ab.gY; case hw => assumption) | (apply Ab.gNT; case hw => assumption) | (apply Ab.gNF; case hw => assumption) | ((first | apply Ab.gD | apply Ab.gDN); all_goals (intro _ _; (first | contradiction | (exfalso; omega) | skip)))) | (apply Ab.K.awp; first | (apply Xg.s; constructor)) | (apply Ab.K.at_; exact at_) | (apply Ab.K.acall; first | assumption | first | exact c1 | exact c32) | (apply Ab.Rg.mk; omega) | (apply Ab.Lt.mk; first | decide | (simp; done) | (simp; omega) | first | omega | (show (0 + 3 : Nat) < 3 + 1; decide)) | (apply Ab.Get.mk; first | rfl | first | rfl | exact gy) | (apply Ab.Nm.mk; first | first | exact (show ((ec e).drop 0).take 3 = ec e from rfl) | exact nrm_) | (apply Xg.s; constructor) | (apply Ab.asm; assumption) | rfl | infer_instance | decide))
  rw [← hs1, ← hs2, ← hs3]
  rintro v s4 ⟨cs, rfl, rfl, hcl, hcp, hct⟩
  clear c1 c31 c32
  have F4 : Fr (s3.set (N + 3) (.cells true 3 cs)) s [] := by rw [hs3, AHeap.set_set]; exact Fr.new (hT.free (by omega)) F2
  have T4 : Top (N + 4) (s3.set (N + 3) (.cells true 3 cs)) := T3.set (by omega)
  have c34 := linked34 (o := N + 4) (EA.part (l := rm l e) (At.hit (s := s3)) hcl hct) (hg.rm e) ha (Nat.le_trans rm_len (by omega)) (T4.none (Nat.le_refl _))
  have aI2 : At (s3.set (N + 3) (.cells true 3 cs)) N (.cells true 1 [.int .i64 a]) := At.miss (by omega) aI

  (repeat' (first | (apply Ab.K.ev; exact ev_) | (apply Ab.K.aops; first | (apply Xg.s; constructor) | (apply Ab.S.guardU; (case hd => rfl); (case hb => (exact ev_; done))) | apply Ab.S.guardG) | (apply Ab.K.aop; first | (apply Og.s; constructor)) | (apply Ab.K.gk; first | (apply Xg.s; constructor) | (apply Ab.gY; case hw => assumption) | (apply Ab.gNT; case hw => assumption) | (apply Ab.gNF; case hw => assumption) | ((first | apply Ab.gD | apply Ab.gDN); all_goals (intro _ _; (first | contradiction | (exfalso; omega) | skip)))) | (apply Ab.K.awp; first | (apply Xg.s; constructor)) | (apply Ab.K.at_; exact at_) | (apply Ab.K.acall; first | assumption | exact c34) | (apply Ab.Rg.mk; omega) | (apply Ab.Lt.mk; first | decide | (simp; done) | (simp; omega) | first | omega | (show (0 + 3 : Nat) < 3 + 1; decide)) | (apply Ab.Get.mk; first | rfl | first | rfl | exact gy) | (apply Ab.Nm.mk; first | first | exact (show ((ec e).drop 0).take 3 = ec e from rfl) | exact nrm_) | (apply Xg.s; constructor) | (apply Ab.asm; assumption) | rfl | infer_instance | decide))
  apply RetQ.retR (renL (dn [(o, N + 4, .cells true 1 (ints (side (rm l e) a)))]))
  (case he => exact evr_)
  (case hg => rfl)
  · simp [resV, mpR, mpB, mp1, mpA, renL_hit]
  · exact KeepsR.new1 ho (hT.none (by omega)) (Fr.new (hT.free (by omega)) F4) At.hit (ints_pl _) (by simp [nmR, nmB, nm1, nmA])
  · simp
end Go.Proofs.Ytnbgeodignljfaa
