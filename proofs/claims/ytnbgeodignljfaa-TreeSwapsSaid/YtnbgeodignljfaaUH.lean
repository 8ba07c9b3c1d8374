/- trees: the theorem of swaps. -/
import Derived.Test.YtnbgeodignljfaaUF
import Derived.Test.YtnbgeodignljfaaTR
namespace Go.Proofs.Ytnbgeodignljfaa
set_option linter.unusedVariables false
set_option linter.unusedSimpArgs false
set_option linter.unusedSectionVars false
open Go.RowKit Ab TP
attribute [local irreducible] AOps AOpsD AOp AWp put nargs AHeap.set At Free ACall ACallE thenQ blockQ roundQ RetQ RetE Src bsn Gr

set_option maxHeartbeats 8000000 in
theorem law6 {s : AHeap} {A : Option Addr} {n c : Nat} {on : Option Nat} {l : List E} {e : E} (h : EA s (.slice A n c) on l) :
    ACall Try.prog 6 [.slice A n c, .agg (ec e).toArray] s (.bool true) s := by
  have hnl : n = l.length := by obtain ⟨_, _, e⟩ := h.isl; injection e
  refine ACall.make Try.func6 rfl (by kernel_rfl) (by decide) rfl (fun N hN => ?_)
  have hT : Top N s := hN
  have aw : ∀ s : AHeap, ACall Try.prog 10 [] s (.bool true) s := fun s => awake10
  obtain ⟨s1, hs1⟩ : ∃ s1, s1 = s.set N (.cells true 1 (ec e)) := ⟨_, rfl⟩
  have T1 : Top (N + 1) s1 := by rw [hs1]; exact hT.new
  have F1 : Fr s1 s [] := by rw [hs1]; exact Fr.new (hT.free (Nat.le_refl _)) (Fr.refl _ _)
  have h1 := h.fr F1



  by_cases h60 : (n : Int) > 60
  · 
    (repeat' (first | (apply Ab.K.ev; exact ev_) | (apply Ab.K.aops; first | (apply Xg.s; constructor) | (apply Ab.S.guardU; (case hd => rfl); (case hb => (exact ev_; done))) | apply Ab.S.guardG) | (apply Ab.K.aop; first | (apply Ab.O.boxA (l := ec e) N; (case hx => exact ev_); (case hid => exact hT.free (Nat.le_refl _))) | (apply Og.s; constructor)) | (apply Ab.K.gk; first | (apply Xg.s; constructor) | (apply Ab.gY; case hw => assumption) | (apply Ab.gNT; case hw => assumption) | (apply Ab.gNF; case hw => assumption) | ((first | apply Ab.gD | apply Ab.gDN); all_goals (intro _ _; (first | contradiction | (exfalso; omega) | skip)))) | (apply Ab.K.awp; first | (apply Xg.s; constructor)) | (apply Ab.K.at_; exact at_) | (apply Ab.K.acall; first | assumption | exact aw _) | (apply Ab.Rg.mk; omega) | (apply Ab.Lt.mk; first | decide | (simp; done) | (simp; omega) | first | omega | (show (0 + 3 : Nat) < 3 + 1; decide)) | (apply Ab.Get.mk; first | rfl | first | rfl) | (apply Ab.Nm.mk; first | first | exact (show ((ec e).drop 0).take 3 = ec e from rfl) | exact nrm_) | (apply Xg.s; constructor) | (apply Ab.asm; assumption) | rfl | infer_instance | decide))
    all_goals ((first | apply RetQ.ret | apply RetQ.normal); (case he => exact evr_); (case hg => rfl))
    all_goals first | rfl | (apply Keeps.fr; (case h => exact fr_); (case hv => exact plR.nm rfl))
  have c20 : ACall Try.prog 20 [.agg (ec e).toArray] s1 (.bool (decide e.may)) s1 := may20
  rw [hs1] at c20
  by_cases hem : e.may
  case neg =>
    rw [decide_eq_false hem] at c20
    (repeat' (first | (apply Ab.K.ev; exact ev_) | (apply Ab.K.aops; first | (apply Xg.s; constructor) | (apply Ab.S.guardU; (case hd => rfl); (case hb => (exact ev_; done))) | apply Ab.S.guardG) | (apply Ab.K.aop; first | (apply Ab.O.boxA (l := ec e) N; (case hx => exact ev_); (case hid => exact hT.free (Nat.le_refl _))) | (apply Og.s; constructor)) | (apply Ab.K.gk; first | (apply Xg.s; constructor) | (apply Ab.gY; case hw => assumption) | (apply Ab.gNT; case hw => assumption) | (apply Ab.gNF; case hw => assumption) | ((first | apply Ab.gD | apply Ab.gDN); all_goals (intro _ _; (first | contradiction | (exfalso; omega) | skip)))) | (apply Ab.K.awp; first | (apply Xg.s; constructor)) | (apply Ab.K.at_; exact at_) | (apply Ab.K.acall; first | assumption | first | exact c20 | exact aw _) | (apply Ab.Rg.mk; omega) | (apply Ab.Lt.mk; first | decide | (simp; done) | (simp; omega) | first | omega | (show (0 + 3 : Nat) < 3 + 1; decide)) | (apply Ab.Get.mk; first | rfl | first | rfl) | (apply Ab.Nm.mk; first | first | exact (show ((ec e).drop 0).take 3 = ec e from rfl) | exact nrm_) | (apply Xg.s; constructor) | (apply Ab.asm; assumption) | rfl | infer_instance | decide))
    all_goals ((first | apply RetQ.ret | apply RetQ.normal); (case he => exact evr_); (case hg => rfl))
    all_goals first | rfl | (apply Keeps.fr; (case h => exact fr_); (case hv => exact plR.nm rfl))
  rw [decide_eq_true hem] at c20
  have c8 := may8 (a := e.a) (b := e.b) h1 (by omega)
  rw [hs1] at c8
  cases hok : okB l e.a e.b
  · rw [hok] at c8
    (repeat' (first | (apply Ab.K.ev; exact ev_) | (apply Ab.K.aops; first | (apply Xg.s; constructor) | (apply Ab.S.guardU; (case hd => rfl); (case hb => (exact ev_; done))) | apply Ab.S.guardG) | (apply Ab.K.aop; first | (apply Ab.O.boxA (l := ec e) N; (case hx => exact ev_); (case hid => exact hT.free (Nat.le_refl _))) | (apply Og.s; constructor)) | (apply Ab.K.gk; first | (apply Xg.s; constructor) | (apply Ab.gY; case hw => assumption) | (apply Ab.gNT; case hw => assumption) | (apply Ab.gNF; case hw => assumption) | ((first | apply Ab.gD | apply Ab.gDN); all_goals (intro _ _; (first | contradiction | (exfalso; omega) | skip)))) | (apply Ab.K.awp; first | (apply Xg.s; constructor)) | (apply Ab.K.at_; exact at_) | (apply Ab.K.acall; first | assumption | first | exact c20 | exact c8 | exact aw _) | (apply Ab.Rg.mk; omega) | (apply Ab.Lt.mk; first | decide | (simp; done) | (simp; omega) | first | omega | (show (0 + 3 : Nat) < 3 + 1; decide)) | (apply Ab.Get.mk; first | rfl | first | rfl) | (apply Ab.Nm.mk; first | first | exact (show ((ec e).drop 0).take 3 = ec e from rfl) | exact nrm_) | (apply Xg.s; constructor) | (apply Ab.asm; assumption) | rfl | infer_instance | decide))
    all_goals ((first | apply RetQ.ret | apply RetQ.normal); (case he => exact evr_); (case hg => rfl))
    all_goals first | rfl | (apply Keeps.fr; (case h => exact fr_); (case hv => exact plR.nm rfl))
  rw [hok] at c8
  obtain ⟨hg, hf, ha, hb⟩ := okB_iff.1 hok
  have c9 := linked9 (a := e.a) (b := e.b) h1 (Good.node hg) (by omega)
  rw [hs1] at c9
  cases hlk : lkB l e.a e.b
  · rw [hlk] at c9
    (repeat' (first | (apply Ab.K.ev; exact ev_) | (apply Ab.K.aops; first | (apply Xg.s; constructor) | (apply Ab.S.guardU; (case hd => rfl); (case hb => (exact ev_; done))) | apply Ab.S.guardG) | (apply Ab.K.aop; first | (apply Ab.O.boxA (l := ec e) N; (case hx => exact ev_); (case hid => exact hT.free (Nat.le_refl _))) | (apply Og.s; constructor)) | (apply Ab.K.gk; first | (apply Xg.s; constructor) | (apply Ab.gY; case hw => assumption) | (apply Ab.gNT; case hw => assumption) | (apply Ab.gNF; case hw => assumption) | ((first | apply Ab.gD | apply Ab.gDN); all_goals (intro _ _; (first | contradiction | (exfalso; omega) | skip)))) | (apply Ab.K.awp; first | (apply Xg.s; constructor)) | (apply Ab.K.at_; exact at_) | (apply Ab.K.acall; first | assumption | first | exact c20 | exact c8 | exact c9 | exact aw _) | (apply Ab.Rg.mk; omega) | (apply Ab.Lt.mk; first | decide | (simp; done) | (simp; omega) | first | omega | (show (0 + 3 : Nat) < 3 + 1; decide)) | (apply Ab.Get.mk; first | rfl | first | rfl) | (apply Ab.Nm.mk; first | first | exact (show ((ec e).drop 0).take 3 = ec e from rfl) | exact nrm_) | (apply Xg.s; constructor) | (apply Ab.asm; assumption) | rfl | infer_instance | decide))
    all_goals ((first | apply RetQ.ret | apply RetQ.normal); (case he => exact evr_); (case hg => rfl))
    all_goals first | rfl | (apply Keeps.fr; (case h => exact fr_); (case hv => exact plR.nm rfl))
  rw [hlk] at c9
  obtain ⟨_, _, hcon⟩ := lkB_iff.1 hlk
  obtain ⟨p, hw⟩ := Way.ex hcon
  have hc := hf.cut hg.2.nodup
  have hab : e.a ≠ e.b := fun h => by have := hem.2.2.1; omega
  obtain ⟨g, hgt⟩ := onP_top hw hab
  obtain ⟨hgl, hgo⟩ := onP_mem.1 hgt.1
  have hnc := (on_iff hc hw hgl).2 hgo
  obtain ⟨hsw1, hsw2, hsw3, hsw4⟩ := swap_ok hg hc hem hcon hgl hnc
  have c21 := heaviest21_yes h1 (by omega) (wOk_iff.2 ⟨hg, hf, ha, hb⟩) hw hab hgt
  rw [hs1] at c21
  have hcond : ¬ ((n : Int) = 512) := by omega

  (repeat' (first | (apply Ab.K.ev; exact ev_) | (apply Ab.K.aops; first | (apply Xg.s; constructor) | (apply Ab.S.guardU; (case hd => rfl); (case hb => (exact ev_; done))) | apply Ab.S.guardG) | (apply Ab.K.aop; first | (first | (apply Ab.O.boxA (l := ec e) N; (case hx => exact ev_); (case hid => exact hT.free (Nat.le_refl _))) | (apply Ab.O.allocA (l := ec ⟨0, 0, 0⟩) (N + 1); (case hid => exact frees_); (case hp => rfl)) | (apply Ab.O.storeAll; (case hz => rfl); (case hx => exact ev_); (case hy => exact ev_); (case hs => exact at_); (case hl => rfl); (case hc => rfl)) | (apply Ab.O.build1A (N + 2); (case hx => exact ev_); (case hl => rfl); (case hz => exact ⟨rfl, rfl⟩); (case hes => decide); (case hid => exact frees_))) | (apply Og.s; constructor)) | (apply Ab.K.gk; first | (apply Xg.s; constructor) | (apply Ab.gY; case hw => assumption) | (apply Ab.gNT; case hw => assumption) | (apply Ab.gNF; case hw => assumption) | ((first | apply Ab.gD | apply Ab.gDN); all_goals (intro _ _; (first | contradiction | (exfalso; omega) | skip)))) | (apply Ab.K.awp; first | (apply Xg.s; constructor)) | (apply Ab.K.at_; exact at_) | (apply Ab.K.acall; first | assumption | first | exact c20 | exact c8 | exact c9 | exact c21) | (apply Ab.Rg.mk; omega) | (apply Ab.Lt.mk; first | decide | (simp; done) | (simp; omega) | first | omega | (show (0 + 3 : Nat) < 3 + 1; decide)) | (apply Ab.Get.mk; first | rfl | first | rfl) | (apply Ab.Nm.mk; first | first | exact (show ((ec e).drop 0).take 3 = ec e from rfl) | exact nrm_) | (apply Xg.s; constructor) | (apply Ab.asm; assumption) | rfl | infer_instance | decide))
  clear c20 c8 c9 c21 T1 F1 h1 hs1 hcond hok hlk
  have hrl : ∀ k, (rm (l.take k) g).length ≤ n := fun k => Nat.le_trans rm_len (by rw [List.length_take]; omega)
  refine AWp.loop (fun kk tm s1 => ∃ (i q M : Nat) (r : List E), Ev tm (.tmp 0) (.slice A n c) ∧ Ev tm (.tmp 3) (.pointer (some ⟨N, 0, none⟩)) ∧ Ev tm (.tmp 5) (.pointer (some ⟨N + 1, 0, none⟩)) ∧ Ev tm (.tmp 7) (.slice (some ⟨q, 0, none⟩) r.length r.length) ∧ Ev tm (.tmp 8) (.int .i64 i) ∧ At s1 N (.cells true 1 (ec e)) ∧ At s1 (N + 1) (.cells true 1 (ec g)) ∧ At s1 q (.cells true 3 (ecs r)) ∧ r = e :: rm (l.take i) g ∧ N + 2 ≤ q ∧ Fr s1 s [] ∧ Top M s1 ∧ N + 2 ≤ M ∧ i ≤ n ∧ kk = n - i) n ?_ ?_
  · exact ⟨0, N + 2, N + 3, [e], by exact ev_, by exact ev_, by exact ev_, by exact ev_, by exact ev_, by exact at_, by exact at_, At.hit, rfl, Nat.le_refl _, by exact fr_, by exact top_, by omega, by omega, rfl⟩
  rintro kk tm s1 ⟨i, q, M, r, e0, e3, e5, e7, e8, a3, a5, a7, hr, hq, F, T, hMM, hi, hkk⟩
  have hqM := T.lt a7
  by_cases hin : i < n
  · have hi' : l[i]? = some (l[i]'(by omega)) := List.getElem?_eq_getElem (by omega)
    obtain ⟨f, hff⟩ : ∃ f, f = l[i]'(by omega) := ⟨_, rfl⟩
    rw [← hff] at hi'
    have htk : l.take (i + 1) = l.take i ++ [f] := by rw [List.take_add_one, hi']; rfl
    obtain ⟨q', rw1, cs, rfl, hon, _, hq', hcs, hE, g0, g1, _⟩ := (h.fr F).elt hi'
    have hqN := h.lt hT q' hon




    by_cases hfg : f = g
    · have q1 : ∀ x y, ABin Try.prog .neq 32 x y (.agg (ec f).toArray) (.agg (ec g).toArray) (.bool false) := fun x y => by have := ne32 (x := x) (y := y) (e := f) (f := g); rwa [decide_eq_true hfg] at this
      have hr1 : r = e :: rm (l.take (i + 1)) g := by rw [htk, rm_snoc, if_pos hfg, List.append_nil]; exact hr
      (repeat' (first | (apply Ab.K.ev; exact ev_) | (apply Ab.K.aops; first | (apply Xg.s; constructor) | (apply Ab.S.guardU; (case hd => rfl); (case hb => (exact ev_; done))) | apply Ab.S.guardG) | (apply Ab.K.aop; first | (apply Ab.O.bin; (case hx => exact ev_); (case hy => exact ev_); (case hv => exact q1 _ _)) | (apply Og.s; constructor)) | (apply Ab.K.gk; first | (apply Xg.s; constructor) | (apply Ab.gY; case hw => assumption) | (apply Ab.gNT; case hw => assumption) | (apply Ab.gNF; case hw => assumption) | ((first | apply Ab.gD | apply Ab.gDN); all_goals (intro _ _; (first | contradiction | (exfalso; omega) | skip)))) | (apply Ab.K.aopsD; first | (apply Ab.D.q0t; (case hw => rfl); (case hot => rfl)) | (apply Ab.D.w1t; (case hw => rfl); (case hot => rfl)) | (apply Ab.D.q0; (case hw => rfl); intro _ _) | (apply Ab.D.w1n; (case hw => rfl); intro _ _) | (apply Ab.D.w2n; (case hw => rfl); intro _ _) | (apply Xg.s; constructor) | (apply Ab.D.guardU; (case hd => rfl); (case hb => (exact ev_; done))) | apply Ab.D.guardG) | exact ⟨rfl, rfl⟩ | (apply Ab.K.awp; first | (apply AWp.draw (id := 10) [[], [], [0, 1], [0, 1, 2], [], [0, 1, 2, 3, 4]] [] (by kernel_rfl) (by kernel_rfl) (by simp [apartW, unordB, cC] <;> omega)) | (apply AWp.draw (id := 11) [[], [], [0, 1], [0, 1, 2], [0, 1, 2, 3], [], [5], [0, 1, 2, 3, 4, 5, 6], [0, 1, 2, 3, 4, 5, 6, 7], [0, 1, 2, 3, 4, 5, 6, 7, 8], [0, 1, 2, 3, 4, 5, 6, 7, 8], [0, 1, 2, 3, 4, 5, 6, 7, 8, 9, 10], [0, 1, 2, 3, 4, 5, 6, 7, 8, 9, 10, 11], [0, 1, 2, 3, 4, 5, 6, 7, 8, 9, 10, 11, 12], [0, 1, 2, 3, 4, 5, 6, 7, 8], [0, 1, 2, 3, 4, 5, 6, 7, 8, 14], [0, 1, 2, 3, 4, 5, 6, 7, 8, 9, 10, 11, 12, 13, 14, 15], [0, 1, 2, 3, 4, 5, 6, 7, 8, 9, 10, 11, 12, 13, 14, 15, 16]] [] (by kernel_rfl) (by kernel_rfl) (by simp [apartW, unordB, cC] <;> omega)) | (apply Xg.s; constructor)) | (apply Ab.K.at_; exact at_) | (apply Ab.K.acall; first | assumption | fail) | (apply Ab.Rg.mk; omega) | (apply Ab.Lt.mk; first | decide | (simp; done) | (simp; omega) | first | omega | (show (0 + 3 : Nat) < 3 + 1; decide)) | (apply Ab.Get.mk; first | rfl | first | rfl | (rw [Int.toNat_natCast]; first | exact g0 | exact g1)) | (apply Ab.Nm.mk; first | first | exact Eq.trans (congrArg (fun z => List.take _ (List.drop (z * 3) cs)) (Int.toNat_natCast i)) hE | exact (show ((ec g).drop 0).take 3 = ec g from rfl) | exact nrm_) | (apply Xg.s; constructor) | (apply Ab.asm; assumption) | rfl | infer_instance | decide))
      exact X.roundN (n - (i + 1)) (by omega) ⟨i + 1, q, M, r, by exact ev_, by exact ev_, by exact ev_, by exact ev_, by exact ev_, a3, a5, a7, hr1, hq, F, T, hMM, by omega, rfl⟩
    · have q1 : ∀ x y, ABin Try.prog .neq 32 x y (.agg (ec f).toArray) (.agg (ec g).toArray) (.bool true) := fun x y => by have := ne32 (x := x) (y := y) (e := f) (f := g); rwa [decide_eq_false hfg] at this
      have hr1 : r ++ [f] = e :: rm (l.take (i + 1)) g := by rw [htk, rm_snoc, if_neg hfg, hr]; rfl
      have hk2 : r.length ≤ 512 := by rw [hr]; have := hrl i; simp; omega
      have hno := hsw1 f (mem_rm.2 ⟨List.mem_of_getElem? hi', hfg⟩)
      by_cases ha1 : f.a = e.a
      case' pos => have hb1 : ¬ f.b = e.b := fun h => hno ⟨ha1, h⟩
      all_goals (repeat' (first | (apply Ab.K.ev; exact ev_) | (apply Ab.K.aops; first | (apply Xg.s; constructor) | (apply Ab.S.guardU; (case hd => rfl); (case hb => (exact ev_; done))) | apply Ab.S.guardG) | (apply Ab.K.aop; first | (first | (apply Ab.O.bin; (case hx => exact ev_); (case hy => exact ev_); (case hv => exact q1 _ _)) | (apply Ab.O.build1A M; (case hx => exact ev_); (case hl => rfl); (case hz => exact ⟨rfl, rfl⟩); (case hes => decide); (case hid => exact T.free (Nat.le_refl _)))) | (apply Og.s; constructor)) | (apply Ab.K.gk; first | (apply Xg.s; constructor) | (apply Ab.gY; case hw => assumption) | (apply Ab.gNT; case hw => assumption) | (apply Ab.gNF; case hw => assumption) | ((first | apply Ab.gD | apply Ab.gDN); all_goals (intro _ _; (first | contradiction | (exfalso; omega) | skip)))) | (apply Ab.K.aopsD; first | (apply Ab.D.q0t; (case hw => rfl); (case hot => rfl)) | (apply Ab.D.w1t; (case hw => rfl); (case hot => rfl)) | (apply Ab.D.q0; (case hw => rfl); intro _ _) | (apply Ab.D.w1n; (case hw => rfl); intro _ _) | (apply Ab.D.w2n; (case hw => rfl); intro _ _) | (apply Xg.s; constructor) | (apply Ab.D.guardU; (case hd => rfl); (case hb => (exact ev_; done))) | apply Ab.D.guardG) | exact ⟨rfl, rfl⟩ | (apply Ab.K.awp; first | (apply AWp.draw (id := 10) [[], [], [0, 1], [0, 1, 2], [], [0, 1, 2, 3, 4]] [] (by kernel_rfl) (by kernel_rfl) (by simp [apartW, unordB, cC] <;> omega)) | (apply AWp.draw (id := 11) [[], [], [0, 1], [0, 1, 2], [0, 1, 2, 3], [], [5], [0, 1, 2, 3, 4, 5, 6], [0, 1, 2, 3, 4, 5, 6, 7], [0, 1, 2, 3, 4, 5, 6, 7, 8], [0, 1, 2, 3, 4, 5, 6, 7, 8], [0, 1, 2, 3, 4, 5, 6, 7, 8, 9, 10], [0, 1, 2, 3, 4, 5, 6, 7, 8, 9, 10, 11], [0, 1, 2, 3, 4, 5, 6, 7, 8, 9, 10, 11, 12], [0, 1, 2, 3, 4, 5, 6, 7, 8], [0, 1, 2, 3, 4, 5, 6, 7, 8, 14], [0, 1, 2, 3, 4, 5, 6, 7, 8, 9, 10, 11, 12, 13, 14, 15], [0, 1, 2, 3, 4, 5, 6, 7, 8, 9, 10, 11, 12, 13, 14, 15, 16]] [] (by kernel_rfl) (by kernel_rfl) (by simp [apartW, unordB, cC] <;> omega)) | (apply Xg.s; constructor)) | (apply Ab.K.at_; exact at_) | (apply Ab.K.acall; first | assumption | fail) | (apply Ab.Rg.mk; omega) | (apply Ab.Lt.mk; first | decide | (simp; done) | (simp; omega) | first | omega | (show (0 + 3 : Nat) < 3 + 1; decide)) | (apply Ab.Get.mk; first | rfl | first | rfl | (rw [Int.toNat_natCast]; first | exact g0 | exact g1)) | (apply Ab.Nm.mk; first | first | exact Eq.trans (congrArg (fun z => List.take _ (List.drop (z * 3) cs)) (Int.toNat_natCast i)) hE | exact (show ((ec g).drop 0).take 3 = ec g from rfl) | exact nrm_) | (apply Xg.s; constructor) | (apply Ab.asm; assumption) | rfl | infer_instance | decide))
      all_goals
        apply Ab.O.appendL (M + 1)
        (case hx => exact ev_)
        (case hL => exact LAt.blk (At.miss (by omega) a7) (ecs_length r))
        (case hy => exact ev_)
        (case hs => exact srcAll At.hit rfl)
        (case hk => rfl)
        (case hm => decide)
        (case hl => rfl)
        (case hz => decide)
        (case hb => omega)
        (case hfree => exact free_)
        intro s2 g2
        have out : ∀ j, j < M → q ≠ j → s2 j = s1 j := fun j hj hne => by rw [g2.off _ (fun e => hne (Option.some.inj e)) (by omega), AHeap.set_other _ _ (by omega)]
        have T2 := g2.topN T.new (fun q' e => by have := Option.some.inj e; omega)
        have F2 := g2.fr (Fr.new (hT.free (by omega)) F) (fun q' e => .inl (hT.none (by have := Option.some.inj e; omega)))
        have a3' : At s2 N (.cells true 1 (ec e)) := At.var (by rw [out _ (by omega) (by omega)]; exact a3.eq)
        have a5' : At s2 (N + 1) (.cells true 1 (ec g)) := At.var (by rw [out _ (by omega) (by omega)]; exact a5.eq)
        have gh := g2.hit
        rw [show ecs r ++ ec f = ecs (r ++ [f]) from by rw [ecs_append]; simp [ecs]] at gh
      all_goals (repeat' (first | (apply Ab.K.ev; exact ev_) | (apply Ab.K.aops; first | (apply Xg.s; constructor) | (apply Ab.S.guardU; (case hd => rfl); (case hb => (exact ev_; done))) | apply Ab.S.guardG) | (apply Ab.K.aop; first | (apply Og.s; constructor)) | (apply Ab.K.gk; first | (apply Xg.s; constructor) | (apply Ab.gY; case hw => assumption) | (apply Ab.gNT; case hw => assumption) | (apply Ab.gNF; case hw => assumption) | ((first | apply Ab.gD | apply Ab.gDN); all_goals (intro _ _; (first | contradiction | (exfalso; omega) | skip)))) | (apply Ab.K.aopsD; first | (apply Ab.D.q0t; (case hw => rfl); (case hot => rfl)) | (apply Ab.D.w1t; (case hw => rfl); (case hot => rfl)) | (apply Ab.D.q0; (case hw => rfl); intro _ _) | (apply Ab.D.w1n; (case hw => rfl); intro _ _) | (apply Ab.D.w2n; (case hw => rfl); intro _ _) | (apply Xg.s; constructor) | (apply Ab.D.guardU; (case hd => rfl); (case hb => (exact ev_; done))) | apply Ab.D.guardG) | exact ⟨rfl, rfl⟩ | (apply Ab.K.awp; first | (apply AWp.draw (id := 10) [[], [], [0, 1], [0, 1, 2], [], [0, 1, 2, 3, 4]] [] (by kernel_rfl) (by kernel_rfl) (by simp [apartW, unordB, cC] <;> omega)) | (apply AWp.draw (id := 11) [[], [], [0, 1], [0, 1, 2], [0, 1, 2, 3], [], [5], [0, 1, 2, 3, 4, 5, 6], [0, 1, 2, 3, 4, 5, 6, 7], [0, 1, 2, 3, 4, 5, 6, 7, 8], [0, 1, 2, 3, 4, 5, 6, 7, 8], [0, 1, 2, 3, 4, 5, 6, 7, 8, 9, 10], [0, 1, 2, 3, 4, 5, 6, 7, 8, 9, 10, 11], [0, 1, 2, 3, 4, 5, 6, 7, 8, 9, 10, 11, 12], [0, 1, 2, 3, 4, 5, 6, 7, 8], [0, 1, 2, 3, 4, 5, 6, 7, 8, 14], [0, 1, 2, 3, 4, 5, 6, 7, 8, 9, 10, 11, 12, 13, 14, 15], [0, 1, 2, 3, 4, 5, 6, 7, 8, 9, 10, 11, 12, 13, 14, 15, 16]] [] (by kernel_rfl) (by kernel_rfl) (by simp [apartW, unordB, cC] <;> omega)) | (apply Xg.s; constructor)) | (apply Ab.K.at_; exact at_) | (apply Ab.K.acall; first | assumption | fail) | (apply Ab.Rg.mk; omega) | (apply Ab.Lt.mk; first | decide | (simp; done) | (simp; omega) | first | omega | (show (0 + 3 : Nat) < 3 + 1; decide)) | (apply Ab.Get.mk; first | rfl | first | rfl | (rw [Int.toNat_natCast]; first | exact g0 | exact g1)) | (apply Ab.Nm.mk; first | first | exact Eq.trans (congrArg (fun z => List.take _ (List.drop (z * 3) cs)) (Int.toNat_natCast i)) hE | exact (show ((ec g).drop 0).take 3 = ec g from rfl) | exact nrm_) | (apply Xg.s; constructor) | (apply Ab.asm; assumption) | rfl | infer_instance | decide))
      all_goals exact X.roundN (n - (i + 1)) (by omega) ⟨i + 1, M + 1, M + 2, r ++ [f], by exact ev_, by exact ev_, by exact ev_, by rw [List.length_append]; exact ev_, by exact ev_, a3', a5', gh, hr1, by omega, F2, T2, by omega, by omega, rfl⟩
  obtain rfl : i = n := by omega
  rw [hnl, List.take_length] at hr
  have hEA : EA s1 (.slice (some ⟨q, 0, none⟩) r.length r.length) (some q) r := EA.own a7
  have hrn : r.length ≤ 512 := by rw [hr]; have := rm_len (l := l) (e := g); simp; omega
  have hrg : TP.Good r := by rw [hr]; exact hsw2
  have hrf : Forest r := by rw [hr]; exact hsw3
  have c22 := forest22 hEA (Good.node hrg) (by omega)
  rw [foB_iff.2 hrf] at c22
  (repeat' (first | (apply Ab.K.ev; exact ev_) | (apply Ab.K.aops; first | (apply Xg.s; constructor) | (apply Ab.S.guardU; (case hd => rfl); (case hb => (exact ev_; done))) | apply Ab.S.guardG) | (apply Ab.K.aop; first | (apply Og.s; constructor)) | (apply Ab.K.gk; first | (apply Xg.s; constructor) | (apply Ab.gY; case hw => assumption) | (apply Ab.gNT; case hw => assumption) | (apply Ab.gNF; case hw => assumption) | ((first | apply Ab.gD | apply Ab.gDN); all_goals (intro _ _; (first | contradiction | (exfalso; omega) | skip)))) | (apply Ab.K.awp; first | (apply Xg.s; constructor)) | (apply Ab.K.at_; exact at_) | (apply Ab.K.acall; first | assumption | exact c22) | (apply Ab.Rg.mk; omega) | (apply Ab.Lt.mk; first | decide | (simp; done) | (simp; omega) | first | omega | (show (0 + 3 : Nat) < 3 + 1; decide)) | (apply Ab.Get.mk; first | rfl | first | rfl | (rw [Int.toNat_natCast]; first | exact g0 | exact g1)) | (apply Ab.Nm.mk; first | first | exact Eq.trans (congrArg (fun z => List.take _ (List.drop (z * 3) cs)) (Int.toNat_natCast i)) hE | exact (show ((ec g).drop 0).take 3 = ec g from rfl) | exact nrm_) | (apply Xg.s; constructor) | (apply Ab.asm; assumption) | rfl | infer_instance | decide))
  clear c22
  have hne0 : N ≠ q := by omega
  refine AWp.loop (fun kk tm s2 => ∃ k : Nat, Ev tm (.tmp 0) (.slice A i c) ∧ Ev tm (.tmp 3) (.pointer (some ⟨N, 0, none⟩)) ∧ Ev tm (.tmp 7) (.slice (some ⟨q, 0, none⟩) r.length r.length) ∧ Ev tm (.tmp 9) (.int .i64 ((k + 1 : Nat) : Int)) ∧ s2 = s1 ∧ k ≤ 11 ∧ kk = 11 - k) 11 ?_ ?_
  · exact ⟨0, by exact ev_, by exact ev_, by exact ev_, by exact ev_, rfl, by omega, rfl⟩
  clear e0 e3 e5 e7 e8
  rintro kk tm s2 ⟨k, e0, e3, e7, e9, rfl, hk, hkk⟩
  by_cases hkn : k < 11
  · have c9 := linked9 (a := ((k + 1 : Nat) : Int)) (b := e.a) (h.fr F) (Good.node hg) (by omega)
    have c9b := linked9 (a := ((k + 1 : Nat) : Int)) (b := e.a) hEA (Good.node hrg) (by omega)
    have heq : lkB r ((k + 1 : Nat) : Int) e.a = lkB l ((k + 1 : Nat) : Int) e.a := by
      rw [Bool.eq_iff_iff, lkB_iff, lkB_iff, hr, hsw4]
    rw [heq] at c9b

    cases hlk : lkB l ((k + 1 : Nat) : Int) e.a
    all_goals
      rw [hlk] at c9 c9b
      (repeat' (first | (apply Ab.K.ev; exact ev_) | (apply Ab.K.aops; first | (apply Xg.s; constructor) | (apply Ab.S.guardU; (case hd => rfl); (case hb => (exact ev_; done))) | apply Ab.S.guardG) | (apply Ab.K.aop; first | (apply Og.s; constructor)) | (apply Ab.K.gk; first | (apply Xg.s; constructor) | (apply Ab.gY; case hw => assumption) | (apply Ab.gNT; case hw => assumption) | (apply Ab.gNF; case hw => assumption) | ((first | apply Ab.gD | apply Ab.gDN); all_goals (intro _ _; (first | contradiction | (exfalso; omega) | skip)))) | (apply Ab.K.aopsD; first | (apply Ab.D.q0t; (case hw => rfl); (case hot => rfl)) | (apply Ab.D.w1t; (case hw => rfl); (case hot => rfl)) | (apply Ab.D.q0; (case hw => rfl); intro _ _) | (apply Ab.D.w1n; (case hw => rfl); intro _ _) | (apply Ab.D.w2n; (case hw => rfl); intro _ _) | (apply Xg.s; constructor) | (apply Ab.D.guardU; (case hd => rfl); (case hb => (exact ev_; done))) | apply Ab.D.guardG) | exact ⟨rfl, rfl⟩ | (apply Ab.K.awp; first | (apply AWp.draw (id := 19) [[], [], [], [2], [0, 1, 2, 3], [], [], [], [7], [0, 1, 2, 3, 4, 5, 6, 7, 8], [0, 1, 2, 3, 4, 5, 6, 7, 8, 9]] [] (by kernel_rfl) (by kernel_rfl) (by simp [apartW, unordB, cC] <;> omega)) | (apply Xg.s; constructor)) | (apply Ab.K.at_; exact at_) | (apply Ab.K.acall; first | assumption | first | exact c9 | exact c9b) | (apply Ab.Rg.mk; omega) | (apply Ab.Lt.mk; first | decide | (simp; done) | (simp; omega) | first | omega | (show (0 + 3 : Nat) < 3 + 1; decide)) | (apply Ab.Get.mk; first | rfl | first | rfl | (rw [Int.toNat_natCast]; first | exact g0 | exact g1)) | (apply Ab.Nm.mk; first | first | exact Eq.trans (congrArg (fun z => List.take _ (List.drop (z * 3) cs)) (Int.toNat_natCast i)) hE | exact (show ((ec g).drop 0).take 3 = ec g from rfl) | exact nrm_) | (apply Xg.s; constructor) | (apply Ab.asm; assumption) | rfl | infer_instance | decide))
      exact X.roundN (11 - (k + 1)) (by omega) ⟨k + 1, by exact ev_, by exact ev_, by exact ev_, by exact ev_, rfl, by omega, rfl⟩
  · obtain rfl : k = 11 := by omega
    (repeat' (first | (apply Ab.K.ev; exact ev_) | (apply Ab.K.aops; first | (apply Xg.s; constructor) | (apply Ab.S.guardU; (case hd => rfl); (case hb => (exact ev_; done))) | apply Ab.S.guardG) | (apply Ab.K.aop; first | (apply Og.s; constructor)) | (apply Ab.K.gk; first | (apply Xg.s; constructor) | (apply Ab.gY; case hw => assumption) | (apply Ab.gNT; case hw => assumption) | (apply Ab.gNF; case hw => assumption) | ((first | apply Ab.gD | apply Ab.gDN); all_goals (intro _ _; (first | contradiction | (exfalso; omega) | skip)))) | (apply Ab.K.awp; first | (apply Xg.s; constructor)) | (apply Ab.K.at_; exact at_) | (apply Ab.K.acall; first | assumption | exact aw _) | (apply Ab.Rg.mk; omega) | (apply Ab.Lt.mk; first | decide | (simp; done) | (simp; omega) | first | omega | (show (0 + 3 : Nat) < 3 + 1; decide)) | (apply Ab.Get.mk; first | rfl | first | rfl | (rw [Int.toNat_natCast]; first | exact g0 | exact g1)) | (apply Ab.Nm.mk; first | first | exact Eq.trans (congrArg (fun z => List.take _ (List.drop (z * 3) cs)) (Int.toNat_natCast i)) hE | exact (show ((ec g).drop 0).take 3 = ec g from rfl) | exact nrm_) | (apply Xg.s; constructor) | (apply Ab.asm; assumption) | rfl | infer_instance | decide))
    all_goals ((first | apply RetQ.ret | apply RetQ.normal); (case he => exact evr_); (case hg => rfl))
    all_goals first | rfl | exact Keeps.fr F (plR.nm rfl)
end Go.Proofs.Ytnbgeodignljfaa
