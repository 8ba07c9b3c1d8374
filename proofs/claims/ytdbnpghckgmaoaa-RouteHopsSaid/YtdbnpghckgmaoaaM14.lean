/- texts of this claim, one behind the other: VE, TH, TL, TM, VG, TN, UA, UC, TO, UB, TQ, UD, TR, UG, VH. -/
import Derived.Test.YtdbnpghckgmaoaaM1
import Derived.Test.YtdbnpghckgmaoaaM8
import Derived.Test.YtdbnpghckgmaoaaM9
import Derived.Test.YtdbnpghckgmaoaaM12
import Derived.Test.YtdbnpghckgmaoaaM13

/- views: the links that both ends know, by the program. -/
namespace Go.Proofs.Ytdbnpghckgmaoaa
set_option linter.unusedVariables false
set_option linter.unusedSimpArgs false
set_option linter.unusedSectionVars false
open Go.RowKit Ab TP VP
theorem KA.newL {s s' : AHeap} {v : Value} {k : Nat} {l : List Kn} (h : NewL s 5 v k (kcs l) s') (hk : k = l.length) : ∃ on, KA s' v on l := by
  subst hk
  rcases h with ⟨hk, _, rfl, rfl⟩ | ⟨u, _, rfl, _, rfl⟩
  · obtain rfl := List.length_eq_zero_iff.1 hk
    exact ⟨none, .nil⟩
  · exact ⟨some u, KA.own At.hit⟩
attribute [local irreducible] AOps AOpsD AOp AWp put nargs AHeap.set At Free ACall ACallE thenQ blockQ roundQ RetQ RetE Src Gr

theorem inner_err {s : AHeap} {A B : Option Addr} {n c m d : Nat} {on ol : Option Nat} {nodes : List Int} {L : List Kn} (hN : NA s (.slice A n c) on nodes) (hL : KA s (.slice B m d) ol L) (hn : n ≤ 100000) (hm : m ≤ 100000) (hno : mvB nodes L = false) :
    ACall Try.prog 43 [.agg #[.slice A n c, .slice B m d]] s (.tuple #[.slice none 0 0, .int .i64 1]) s := by
  refine ACall.make Try.func43 rfl (by kernel_rfl) (by decide) rfl (fun N hN0 => ?_)
  have hT : Top N s := hN0
  have F1 : Fr (s.set N (.cells true 1 [.slice A n c, .slice B m d])) s [] := Fr.new (hT.free (Nat.le_refl _)) (Fr.refl _ _)
  have c54 := checkV (hN.fr F1) (hL.fr F1) hn hm
  rw [hno] at c54


  (repeat' (first | (apply Ab.K.ev; exact ev_) | (apply Ab.K.aops; first | (apply Xg.s; constructor) | (apply Ab.S.guardU; (case hd => rfl); (case hb => (exact ev_; done))) | apply Ab.S.guardG) | (apply Ab.K.aop; first | (apply Ab.O.boxA (l := [.slice A n c, .slice B m d]) N; (case hx => exact ev_); (case hid => exact hT.free (Nat.le_refl _))) | (apply Og.s; constructor)) | (apply Ab.K.gk; first | (apply Xg.s; constructor) | (apply Ab.gY; case hw => assumption) | (apply Ab.gNT; case hw => assumption) | (apply Ab.gNF; case hw => assumption) | ((first | apply Ab.gD | apply Ab.gDN); all_goals (intro _ _; (first | contradiction | (exfalso; omega) | skip)))) | (apply Ab.K.awp; first | (apply Xg.s; constructor)) | (apply Ab.K.at_; exact at_) | (apply Ab.K.acall; first | assumption | exact c54) | (apply Ab.Rg.mk; omega) | (apply Ab.Lt.mk; first | decide | (simp; done) | (simp; omega) | fail) | (apply Ab.Get.mk; first | rfl | fail) | (apply Ab.Nm.mk; first | exact (show (([.slice A n c, .slice B m d] : List Value).drop 0).take 2 = [.slice A n c, .slice B m d] from rfl) | exact nrm_) | (apply Xg.s; constructor) | (apply Ab.asm; assumption) | rfl | infer_instance | decide))
  all_goals ((first | apply RetQ.ret | apply RetQ.normal); (case he => exact evr_); (case hg => rfl))
  all_goals first | rfl | (apply Keeps.fr; (case h => exact fr_); (case hv => exact plR.nm rfl))
set_option maxHeartbeats 8000000 in
theorem innerV {s : AHeap} {A B : Option Addr} {n c m d : Nat} {on ol : Option Nat} {nodes : List Int} {L : List Kn} (hN : NA s (.slice A n c) on nodes) (hL : KA s (.slice B m d) ol L) (hn : n ≤ 100000) (hm : m ≤ 100000) (hv : MayV nodes L) :
    ACallE Try.prog 43 [.agg #[.slice A n c, .slice B m d]] s (fun v s' => ∃ w, v = .tuple #[w, .int .i64 0] ∧ NewL s 5 w (inn L).length (kcs (inn L)) s') := by
  have hml : m = L.length := by obtain ⟨_, _, e⟩ := hL.isl; injection e
  have hLO := hv.2
  refine ACallE.make Try.func43 rfl (by kernel_rfl) (by decide) rfl (fun N hN0 => ?_)
  have hT : Top N s := hN0
  have F1 : Fr (s.set N (.cells true 1 [.slice A n c, .slice B m d])) s [] := Fr.new (hT.free (Nat.le_refl _)) (Fr.refl _ _)
  have c54 := checkV (hN.fr F1) (hL.fr F1) hn hm
  rw [mvB_iff.2 hv] at c54
  (repeat' (first | (apply Ab.K.ev; exact ev_) | (apply Ab.K.aops; first | (apply Xg.s; constructor) | (apply Ab.S.guardU; (case hd => rfl); (case hb => (exact ev_; done))) | apply Ab.S.guardG) | (apply Ab.K.aop; first | (apply Ab.O.boxA (l := [.slice A n c, .slice B m d]) N; (case hx => exact ev_); (case hid => exact hT.free (Nat.le_refl _))) | (apply Og.s; constructor)) | (apply Ab.K.gk; first | (apply Xg.s; constructor) | (apply Ab.gY; case hw => assumption) | (apply Ab.gNT; case hw => assumption) | (apply Ab.gNF; case hw => assumption) | ((first | apply Ab.gD | apply Ab.gDN); all_goals (intro _ _; (first | contradiction | (exfalso; omega) | skip)))) | (apply Ab.K.awp; first | (apply Xg.s; constructor)) | (apply Ab.K.at_; exact at_) | (apply Ab.K.acall; first | assumption | exact c54) | (apply Ab.Rg.mk; omega) | (apply Ab.Lt.mk; first | decide | (simp; done) | (simp; omega) | fail) | (apply Ab.Get.mk; first | rfl | fail) | (apply Ab.Nm.mk; first | exact (show (([.slice A n c, .slice B m d] : List Value).drop 0).take 2 = [.slice A n c, .slice B m d] from rfl) | exact nrm_) | (apply Xg.s; constructor) | (apply Ab.asm; assumption) | rfl | infer_instance | decide))
  clear c54

  refine AWp.loop (fun kk tm s1 => ∃ (i k M : Nat) (v : Value) (ov : Option Nat) (r : List Kn), Ev tm (.tmp 1) (.pointer (some ⟨N, 0, none⟩)) ∧ Ev tm (.tmp 5) v ∧ Ev tm (.tmp 16) (.slice B m d) ∧ Ev tm (.tmp 17) (.int .i64 m) ∧ Ev tm (.tmp 18) (.int .i64 i) ∧ At s1 N (.cells true 1 [.slice A n c, .slice B m d]) ∧ Gr s1 5 (N + 1) v ov k (kcs r) ∧ k = r.length ∧ r = (L.take i).flatMap (fun x => L.filterMap (mt x)) ∧ Fr s1 s [] ∧ Top M s1 ∧ N + 1 ≤ M ∧ i ≤ m ∧ kk = m - i) m ?_ ?_
  · exact ⟨0, 0, N + 1, _, _, [], by exact ev_, by exact ev_, by exact ev_, by exact ev_, by exact ev_, by exact at_, Gr.nil, rfl, rfl, F1, by exact top_, Nat.le_refl _, by omega, rfl⟩
  clear F1
  rintro kk tm s1 ⟨i, k, M, v, ov, r, e1, e5, e16, e17, e18, a1, G, hk, hr, F, T, hMM, hi, hkk⟩
  have hlt := G.lt T
  have hge := G.from_
  by_cases hin : i < m
  · obtain ⟨x, hx⟩ : ∃ x, L[i]? = some x := ⟨_, List.getElem?_eq_getElem (by omega)⟩
    have htk : L.take (i + 1) = L.take i ++ [x] := by rw [List.take_add_one, hx]; rfl
    have hxm := List.mem_of_getElem? hx
    have hok := hLO.1 x hxm
    have hrl : k ≤ 100000 := by rw [hk, hr]; exact Nat.le_trans (flatMap_len (inn_one hLO)) (by rw [List.length_take]; omega)
    have hfm : ∀ y, (L.filterMap (mt x) = y) → (L.take (i + 1)).flatMap (fun x => L.filterMap (mt x)) = r ++ y := fun y e => by rw [htk, List.flatMap_append, ← hr, List.flatMap_cons, List.flatMap_nil, List.append_nil, e]
    obtain ⟨q, rw1, cs, rfl, _, _, hq, hcs, hE, _⟩ := (hL.fr F).elt hx
    have hqM := T.lt hq
    obtain ⟨s2, hs2⟩ : ∃ s2, s2 = (s1.set M (.cells true 1 (kc ⟨0, 0, 0, 0, false⟩))).set M (.cells true 1 (kc x)) := ⟨_, rfl⟩
    have F2 : Fr s2 s [] := by rw [hs2, AHeap.set_set]; exact Fr.new (hT.free (by omega)) F
    have T2 : Top (M + 1) s2 := by rw [hs2, AHeap.set_set]; exact T.new
    have aM : At s2 M (.cells true 1 (kc x)) := by rw [hs2]; exact At.hit
    have a12 : At s2 N (.cells true 1 [.slice A n c, .slice (some ⟨q, 0, none⟩) m d]) := by rw [hs2]; exact at_
    have hq2 : At s2 q (.cells rw1 5 cs) := by rw [hs2]; exact at_
    have G2 : Gr s2 5 (N + 1) v ov k (kcs r) := by rw [hs2]; exact (G.set (fun q e => by have := hlt q e; omega)).set (fun q e => by have := hlt q e; omega)
    have c55 := searchV (t := ⟨x.peer, x.node, 0, 0, false⟩) (hL.fr F2) hLO.2 hm
    rw [hs2] at c55


    (repeat' (first | (apply Ab.K.ev; exact ev_) | (apply Ab.K.aops; first | (apply Xg.s; constructor) | (apply Ab.S.guardU; (case hd => rfl); (case hb => (exact ev_; done))) | apply Ab.S.guardG) | (apply Ab.K.aop; first | (first | (apply Ab.O.allocA (l := kc ⟨0, 0, 0, 0, false⟩) M; (case hid => exact T.free (Nat.le_refl _)); (case hp => rfl)) | (apply Ab.O.storeAll; (case hz => rfl); (case hx => exact ev_); (case hy => exact ev_); (case hs => exact at_); (case hl => rfl); (case hc => rfl)) | (apply Ab.O.callFE; (case ha => exact evs_); (case hc => exact c55))) | (apply Og.s; constructor)) | (apply Ab.K.gk; first | (apply Xg.s; constructor) | (apply Ab.gY; case hw => assumption) | (apply Ab.gNT; case hw => assumption) | (apply Ab.gNF; case hw => assumption) | ((first | apply Ab.gD | apply Ab.gDN); all_goals (intro _ _; (first | contradiction | (exfalso; omega) | skip)))) | (apply Ab.K.awp; first | (apply Xg.s; constructor)) | (apply Ab.K.at_; exact at_) | (apply Ab.K.acall; first | assumption | fail) | (apply Ab.Rg.mk; omega) | (apply Ab.Lt.mk; first | decide | (simp; done) | (simp; omega) | first | omega | (show (0 + 5 : Nat) < 5 + 1; decide) | (show (0 + 4 : Nat) < 5; decide)) | (apply Ab.Get.mk; first | rfl | fail) | (apply Ab.Nm.mk; first | first | exact Eq.trans (congrArg (fun z => List.take _ (List.drop (z * 5) cs)) (Int.toNat_natCast i)) hE | exact (show ((kc x).drop 0).take 5 = kc x from rfl) | exact nrm_) | (apply Xg.s; constructor) | (apply Ab.asm; assumption) | rfl | infer_instance | decide))
    rintro v3 s3 ⟨rfl, j, f, rfl, hf⟩
    rw [← hs2]
    clear c55

    have skip : L.filterMap (mt x) = [] → (L.take (i + 1)).flatMap (fun x => L.filterMap (mt x)) = r := fun e => by rw [hfm _ e, List.append_nil]
    have next0 : L.filterMap (mt x) = [] → r = (L.take (i + 1)).flatMap (fun x => L.filterMap (mt x)) := fun e => (skip e).symm
    by_cases hA : x.node < x.peer
    case neg =>
      have hgt : x.node > x.peer := by have := hok.2.2.1; omega
      have hnx := next0 (filterMap_none fun r1 _ => by unfold VP.mt; rw [if_neg fun h => hA h.1])
      (repeat' (first | (apply Ab.K.ev; exact ev_) | (apply Ab.K.aops; first | (apply Xg.s; constructor) | (apply Ab.S.guardU; (case hd => rfl); (case hb => (exact ev_; done))) | apply Ab.S.guardG) | (apply Ab.K.aop; first | (apply Og.s; constructor)) | (apply Ab.K.gk; first | (apply Xg.s; constructor) | (apply Ab.gY; case hw => assumption) | (apply Ab.gNT; case hw => assumption) | (apply Ab.gNF; case hw => assumption) | ((first | apply Ab.gD | apply Ab.gDN); all_goals (intro _ _; (first | contradiction | (exfalso; omega) | skip)))) | (apply Ab.K.aopsD; first | (apply Ab.D.q0t; (case hw => rfl); (case hot => rfl)) | (apply Ab.D.w1t; (case hw => rfl); (case hot => rfl)) | (apply Ab.D.q0; (case hw => rfl); intro _ _) | (apply Ab.D.w1n; (case hw => rfl); intro _ _) | (apply Ab.D.w2n; (case hw => rfl); intro _ _) | (apply Xg.s; constructor) | (apply Ab.D.guardU; (case hd => rfl); (case hb => (exact ev_; done))) | apply Ab.D.guardG) | exact ⟨rfl, rfl⟩ | (apply Ab.K.awp; first | (apply AWp.draw (id := 9) [[], [0], [], [2], [0, 1, 2, 3], [0, 1, 2, 3, 4], [0, 1, 2, 3, 4, 5], [0, 1, 2, 3, 4, 5, 6], [0, 1, 2, 3, 4, 5, 6, 7], [0, 1, 2, 3, 4, 5, 6, 7, 8], [0, 1, 2, 3, 4, 5, 6, 7, 8, 9], [0, 1, 2, 3, 4, 5, 6, 7, 8, 9, 10], [0, 1, 2, 3, 4, 5, 6, 7, 8, 9], [0, 1, 2, 3, 4, 5, 6, 7, 8, 9, 10, 11, 12], [0, 1, 2, 3, 4, 5, 6, 7, 8, 9, 10, 11, 12, 13], [0, 1, 2, 3, 4, 5, 6, 7, 8, 9, 10, 11, 12, 13, 14], [0, 1, 2, 3, 4, 5, 6, 7, 8, 9], [0, 1, 2, 3, 4, 5, 6, 7, 8, 9, 16], [0, 1, 2, 3, 4, 5, 6, 7, 8, 9, 10, 11, 12, 13, 14, 15, 16, 17], [0, 1, 2, 3, 4, 5, 6, 7, 8, 9, 10, 11, 12, 13, 14, 15, 16, 17, 18], [0, 1, 2, 3, 4, 5, 6, 7, 8, 9, 10, 11, 12, 13, 14, 15, 16, 17, 18, 19], [0, 1, 2, 3, 4, 5, 6, 7, 8, 9, 10, 11, 12, 13, 14, 15, 16, 17, 18, 19, 20], [0, 1, 2, 3, 4, 5, 6, 7, 8, 9, 10, 11, 12, 13, 14, 15, 16, 17, 18, 19, 20, 21], [0, 1, 2, 3, 4, 5, 6, 7, 8, 9, 10, 11, 12, 13, 14, 15, 16, 17, 18, 19, 20], [0, 1, 2, 3, 4, 5, 6, 7, 8, 9, 10, 11, 12, 13, 14, 15, 16, 17, 18, 19, 20, 21, 22, 23], [0, 1, 2, 3, 4, 5, 6, 7, 8, 9, 10, 11, 12, 13, 14, 15, 16, 17, 18, 19, 20, 21, 22, 23, 24], [0, 1, 2, 3, 4, 5, 6, 7, 8, 9, 10, 11, 12, 13, 14, 15, 16, 17, 18, 19, 20, 21, 22, 23, 24, 25], [0, 1, 2, 3, 4, 5, 6, 7, 8, 9, 10, 11, 12, 13, 14, 15, 16, 17, 18, 19, 20], [0, 1, 2, 3, 4, 5, 6, 7, 8, 9, 10, 11, 12, 13, 14, 15, 16, 17, 18, 19, 20, 27], [0, 1, 2, 3, 4, 5, 6, 7, 8, 9, 10, 11, 12, 13, 14, 15, 16, 17, 18, 19, 20, 21, 22, 23, 24, 25, 26, 27, 28], [0, 1, 2, 3, 4, 5, 6, 7, 8, 9, 10, 11, 12, 13, 14, 15, 16, 17, 18, 19, 20, 21, 22, 23, 24, 25, 26, 27, 28, 29]] [] (by kernel_rfl) (by kernel_rfl) (by simp [apartW, unordB, cC] <;> omega)) | (apply Xg.s; constructor)) | (apply Ab.K.at_; exact at_) | (apply Ab.K.acall; first | assumption | fail) | (apply Ab.Rg.mk; omega) | (apply Ab.Lt.mk; first | decide | (simp; done) | (simp; omega) | first | omega | (show (0 + 5 : Nat) < 5 + 1; decide) | (show (0 + 4 : Nat) < 5; decide)) | (apply Ab.Get.mk; first | rfl | fail) | (apply Ab.Nm.mk; first | first | exact Eq.trans (congrArg (fun z => List.take _ (List.drop (z * 5) cs)) (Int.toNat_natCast i)) hE | exact (show ((kc x).drop 0).take 5 = kc x from rfl) | exact nrm_) | (apply Xg.s; constructor) | (apply Ab.asm; assumption) | rfl | infer_instance | decide))
      exact X.roundN (m - (i + 1)) (by omega) ⟨i + 1, k, M + 1, v, ov, r, by exact ev_, by exact ev_, by exact ev_, by exact ev_, by exact ev_, a12, G2, hk, hnx, F2, T2, by omega, by omega, rfl⟩
    have hgt : ¬ x.node > x.peer := by omega
    rcases hf with ⟨rfl, r1, hr1, hk1, hk2⟩ | ⟨rfl, hno⟩
    case inr =>
      have hnx := next0 (inn_no fun r1 h1 h2 => hno r1 h1 h2)
      (repeat' (first | (apply Ab.K.ev; exact ev_) | (apply Ab.K.aops; first | (apply Xg.s; constructor) | (apply Ab.S.guardU; (case hd => rfl); (case hb => (exact ev_; done))) | apply Ab.S.guardG) | (apply Ab.K.aop; first | (apply Og.s; constructor)) | (apply Ab.K.gk; first | (apply Xg.s; constructor) | (apply Ab.gY; case hw => assumption) | (apply Ab.gNT; case hw => assumption) | (apply Ab.gNF; case hw => assumption) | ((first | apply Ab.gD | apply Ab.gDN); all_goals (intro _ _; (first | contradiction | (exfalso; omega) | skip)))) | (apply Ab.K.aopsD; first | (apply Ab.D.q0t; (case hw => rfl); (case hot => rfl)) | (apply Ab.D.w1t; (case hw => rfl); (case hot => rfl)) | (apply Ab.D.q0; (case hw => rfl); intro _ _) | (apply Ab.D.w1n; (case hw => rfl); intro _ _) | (apply Ab.D.w2n; (case hw => rfl); intro _ _) | (apply Xg.s; constructor) | (apply Ab.D.guardU; (case hd => rfl); (case hb => (exact ev_; done))) | apply Ab.D.guardG) | exact ⟨rfl, rfl⟩ | (apply Ab.K.awp; first | (apply AWp.draw (id := 9) [[], [0], [], [2], [0, 1, 2, 3], [0, 1, 2, 3, 4], [0, 1, 2, 3, 4, 5], [0, 1, 2, 3, 4, 5, 6], [0, 1, 2, 3, 4, 5, 6, 7], [0, 1, 2, 3, 4, 5, 6, 7, 8], [0, 1, 2, 3, 4, 5, 6, 7, 8, 9], [0, 1, 2, 3, 4, 5, 6, 7, 8, 9, 10], [0, 1, 2, 3, 4, 5, 6, 7, 8, 9], [0, 1, 2, 3, 4, 5, 6, 7, 8, 9, 10, 11, 12], [0, 1, 2, 3, 4, 5, 6, 7, 8, 9, 10, 11, 12, 13], [0, 1, 2, 3, 4, 5, 6, 7, 8, 9, 10, 11, 12, 13, 14], [0, 1, 2, 3, 4, 5, 6, 7, 8, 9], [0, 1, 2, 3, 4, 5, 6, 7, 8, 9, 16], [0, 1, 2, 3, 4, 5, 6, 7, 8, 9, 10, 11, 12, 13, 14, 15, 16, 17], [0, 1, 2, 3, 4, 5, 6, 7, 8, 9, 10, 11, 12, 13, 14, 15, 16, 17, 18], [0, 1, 2, 3, 4, 5, 6, 7, 8, 9, 10, 11, 12, 13, 14, 15, 16, 17, 18, 19], [0, 1, 2, 3, 4, 5, 6, 7, 8, 9, 10, 11, 12, 13, 14, 15, 16, 17, 18, 19, 20], [0, 1, 2, 3, 4, 5, 6, 7, 8, 9, 10, 11, 12, 13, 14, 15, 16, 17, 18, 19, 20, 21], [0, 1, 2, 3, 4, 5, 6, 7, 8, 9, 10, 11, 12, 13, 14, 15, 16, 17, 18, 19, 20], [0, 1, 2, 3, 4, 5, 6, 7, 8, 9, 10, 11, 12, 13, 14, 15, 16, 17, 18, 19, 20, 21, 22, 23], [0, 1, 2, 3, 4, 5, 6, 7, 8, 9, 10, 11, 12, 13, 14, 15, 16, 17, 18, 19, 20, 21, 22, 23, 24], [0, 1, 2, 3, 4, 5, 6, 7, 8, 9, 10, 11, 12, 13, 14, 15, 16, 17, 18, 19, 20, 21, 22, 23, 24, 25], [0, 1, 2, 3, 4, 5, 6, 7, 8, 9, 10, 11, 12, 13, 14, 15, 16, 17, 18, 19, 20], [0, 1, 2, 3, 4, 5, 6, 7, 8, 9, 10, 11, 12, 13, 14, 15, 16, 17, 18, 19, 20, 27], [0, 1, 2, 3, 4, 5, 6, 7, 8, 9, 10, 11, 12, 13, 14, 15, 16, 17, 18, 19, 20, 21, 22, 23, 24, 25, 26, 27, 28], [0, 1, 2, 3, 4, 5, 6, 7, 8, 9, 10, 11, 12, 13, 14, 15, 16, 17, 18, 19, 20, 21, 22, 23, 24, 25, 26, 27, 28, 29]] [] (by kernel_rfl) (by kernel_rfl) (by simp [apartW, unordB, cC] <;> omega)) | (apply Xg.s; constructor)) | (apply Ab.K.at_; exact at_) | (apply Ab.K.acall; first | assumption | fail) | (apply Ab.Rg.mk; omega) | (apply Ab.Lt.mk; first | decide | (simp; done) | (simp; omega) | first | omega | (show (0 + 5 : Nat) < 5 + 1; decide) | (show (0 + 4 : Nat) < 5; decide)) | (apply Ab.Get.mk; first | rfl | fail) | (apply Ab.Nm.mk; first | first | exact Eq.trans (congrArg (fun z => List.take _ (List.drop (z * 5) cs)) (Int.toNat_natCast i)) hE | exact (show ((kc x).drop 0).take 5 = kc x from rfl) | exact nrm_) | (apply Xg.s; constructor) | (apply Ab.asm; assumption) | rfl | infer_instance | decide))
      exact X.roundN (m - (i + 1)) (by omega) ⟨i + 1, k, M + 1, v, ov, r, by exact ev_, by exact ev_, by exact ev_, by exact ev_, by exact ev_, a12, G2, hk, hnx, F2, T2, by omega, by omega, rfl⟩
    have hjm := (List.getElem?_eq_some_iff.1 hr1).1
    obtain ⟨q3, rw3, cs3, hqq, _, _, hq3, hcs3, hE3, hc3⟩ := (hL.fr F).elt hr1
    obtain rfl : q = q3 := by have := Option.some.inj hqq; injection this
    have e2 := hq.eq.symm.trans hq3.eq
    injection e2 with e2
    injection e2 with _ _ e2
    subst e2
    have g2 : cs[j * 5 + 2]? = some (.int .i64 r1.w) := hc3 2 (by omega)
    have g3 : cs[j * 5 + 3]? = some (.int .i64 r1.ss) := hc3 3 (by omega)
    have g4 : cs[j * 5 + 4]? = some (.bool r1.md) := hc3 4 (by omega)
    have hia := inn_at hLO (List.mem_of_getElem? hr1) hk1 hk2
    by_cases hw : r1.w = x.w
    case neg =>
      have hnx := next0 (by rw [hia]; unfold VP.mt; rw [if_neg fun h => hw h.2.2.2.1.symm]; rfl)
      (repeat' (first | (apply Ab.K.ev; exact ev_) | (apply Ab.K.aops; first | (apply Xg.s; constructor) | (apply Ab.S.guardU; (case hd => rfl); (case hb => (exact ev_; done))) | apply Ab.S.guardG) | (apply Ab.K.aop; first | (apply Og.s; constructor)) | (apply Ab.K.gk; first | (apply Xg.s; constructor) | (apply Ab.gY; case hw => assumption) | (apply Ab.gNT; case hw => assumption) | (apply Ab.gNF; case hw => assumption) | ((first | apply Ab.gD | apply Ab.gDN); all_goals (intro _ _; (first | contradiction | (exfalso; omega) | skip)))) | (apply Ab.K.aopsD; first | (apply Ab.D.q0t; (case hw => rfl); (case hot => rfl)) | (apply Ab.D.w1t; (case hw => rfl); (case hot => rfl)) | (apply Ab.D.q0; (case hw => rfl); intro _ _) | (apply Ab.D.w1n; (case hw => rfl); intro _ _) | (apply Ab.D.w2n; (case hw => rfl); intro _ _) | (apply Xg.s; constructor) | (apply Ab.D.guardU; (case hd => rfl); (case hb => (exact ev_; done))) | apply Ab.D.guardG) | exact ⟨rfl, rfl⟩ | (apply Ab.K.awp; first | (apply AWp.draw (id := 9) [[], [0], [], [2], [0, 1, 2, 3], [0, 1, 2, 3, 4], [0, 1, 2, 3, 4, 5], [0, 1, 2, 3, 4, 5, 6], [0, 1, 2, 3, 4, 5, 6, 7], [0, 1, 2, 3, 4, 5, 6, 7, 8], [0, 1, 2, 3, 4, 5, 6, 7, 8, 9], [0, 1, 2, 3, 4, 5, 6, 7, 8, 9, 10], [0, 1, 2, 3, 4, 5, 6, 7, 8, 9], [0, 1, 2, 3, 4, 5, 6, 7, 8, 9, 10, 11, 12], [0, 1, 2, 3, 4, 5, 6, 7, 8, 9, 10, 11, 12, 13], [0, 1, 2, 3, 4, 5, 6, 7, 8, 9, 10, 11, 12, 13, 14], [0, 1, 2, 3, 4, 5, 6, 7, 8, 9], [0, 1, 2, 3, 4, 5, 6, 7, 8, 9, 16], [0, 1, 2, 3, 4, 5, 6, 7, 8, 9, 10, 11, 12, 13, 14, 15, 16, 17], [0, 1, 2, 3, 4, 5, 6, 7, 8, 9, 10, 11, 12, 13, 14, 15, 16, 17, 18], [0, 1, 2, 3, 4, 5, 6, 7, 8, 9, 10, 11, 12, 13, 14, 15, 16, 17, 18, 19], [0, 1, 2, 3, 4, 5, 6, 7, 8, 9, 10, 11, 12, 13, 14, 15, 16, 17, 18, 19, 20], [0, 1, 2, 3, 4, 5, 6, 7, 8, 9, 10, 11, 12, 13, 14, 15, 16, 17, 18, 19, 20, 21], [0, 1, 2, 3, 4, 5, 6, 7, 8, 9, 10, 11, 12, 13, 14, 15, 16, 17, 18, 19, 20], [0, 1, 2, 3, 4, 5, 6, 7, 8, 9, 10, 11, 12, 13, 14, 15, 16, 17, 18, 19, 20, 21, 22, 23], [0, 1, 2, 3, 4, 5, 6, 7, 8, 9, 10, 11, 12, 13, 14, 15, 16, 17, 18, 19, 20, 21, 22, 23, 24], [0, 1, 2, 3, 4, 5, 6, 7, 8, 9, 10, 11, 12, 13, 14, 15, 16, 17, 18, 19, 20, 21, 22, 23, 24, 25], [0, 1, 2, 3, 4, 5, 6, 7, 8, 9, 10, 11, 12, 13, 14, 15, 16, 17, 18, 19, 20], [0, 1, 2, 3, 4, 5, 6, 7, 8, 9, 10, 11, 12, 13, 14, 15, 16, 17, 18, 19, 20, 27], [0, 1, 2, 3, 4, 5, 6, 7, 8, 9, 10, 11, 12, 13, 14, 15, 16, 17, 18, 19, 20, 21, 22, 23, 24, 25, 26, 27, 28], [0, 1, 2, 3, 4, 5, 6, 7, 8, 9, 10, 11, 12, 13, 14, 15, 16, 17, 18, 19, 20, 21, 22, 23, 24, 25, 26, 27, 28, 29]] [] (by kernel_rfl) (by kernel_rfl) (by simp [apartW, unordB, cC] <;> omega)) | (apply Xg.s; constructor)) | (apply Ab.K.at_; exact at_) | (apply Ab.K.acall; first | assumption | fail) | (apply Ab.Rg.mk; omega) | (apply Ab.Lt.mk; first | decide | (simp; done) | (simp; omega) | first | omega | (show (0 + 5 : Nat) < 5 + 1; decide) | (show (0 + 4 : Nat) < 5; decide)) | (apply Ab.Get.mk; first | rfl | first | rfl | (rw [Int.toNat_natCast]; first | exact g2 | exact g3 | exact g4)) | (apply Ab.Nm.mk; first | first | exact Eq.trans (congrArg (fun z => List.take _ (List.drop (z * 5) cs)) (Int.toNat_natCast i)) hE | exact (show ((kc x).drop 0).take 5 = kc x from rfl) | exact nrm_) | (apply Xg.s; constructor) | (apply Ab.asm; assumption) | rfl | infer_instance | decide))
      exact X.roundN (m - (i + 1)) (by omega) ⟨i + 1, k, M + 1, v, ov, r, by exact ev_, by exact ev_, by exact ev_, by exact ev_, by exact ev_, a12, G2, hk, hnx, F2, T2, by omega, by omega, rfl⟩
    by_cases hss : r1.ss = x.ss
    case neg =>
      have hnx := next0 (by rw [hia]; unfold VP.mt; rw [if_neg fun h => hss h.2.2.2.2.symm]; rfl)
      (repeat' (first | (apply Ab.K.ev; exact ev_) | (apply Ab.K.aops; first | (apply Xg.s; constructor) | (apply Ab.S.guardU; (case hd => rfl); (case hb => (exact ev_; done))) | apply Ab.S.guardG) | (apply Ab.K.aop; first | (apply Og.s; constructor)) | (apply Ab.K.gk; first | (apply Xg.s; constructor) | (apply Ab.gY; case hw => assumption) | (apply Ab.gNT; case hw => assumption) | (apply Ab.gNF; case hw => assumption) | ((first | apply Ab.gD | apply Ab.gDN); all_goals (intro _ _; (first | contradiction | (exfalso; omega) | skip)))) | (apply Ab.K.aopsD; first | (apply Ab.D.q0t; (case hw => rfl); (case hot => rfl)) | (apply Ab.D.w1t; (case hw => rfl); (case hot => rfl)) | (apply Ab.D.q0; (case hw => rfl); intro _ _) | (apply Ab.D.w1n; (case hw => rfl); intro _ _) | (apply Ab.D.w2n; (case hw => rfl); intro _ _) | (apply Xg.s; constructor) | (apply Ab.D.guardU; (case hd => rfl); (case hb => (exact ev_; done))) | apply Ab.D.guardG) | exact ⟨rfl, rfl⟩ | (apply Ab.K.awp; first | (apply AWp.draw (id := 9) [[], [0], [], [2], [0, 1, 2, 3], [0, 1, 2, 3, 4], [0, 1, 2, 3, 4, 5], [0, 1, 2, 3, 4, 5, 6], [0, 1, 2, 3, 4, 5, 6, 7], [0, 1, 2, 3, 4, 5, 6, 7, 8], [0, 1, 2, 3, 4, 5, 6, 7, 8, 9], [0, 1, 2, 3, 4, 5, 6, 7, 8, 9, 10], [0, 1, 2, 3, 4, 5, 6, 7, 8, 9], [0, 1, 2, 3, 4, 5, 6, 7, 8, 9, 10, 11, 12], [0, 1, 2, 3, 4, 5, 6, 7, 8, 9, 10, 11, 12, 13], [0, 1, 2, 3, 4, 5, 6, 7, 8, 9, 10, 11, 12, 13, 14], [0, 1, 2, 3, 4, 5, 6, 7, 8, 9], [0, 1, 2, 3, 4, 5, 6, 7, 8, 9, 16], [0, 1, 2, 3, 4, 5, 6, 7, 8, 9, 10, 11, 12, 13, 14, 15, 16, 17], [0, 1, 2, 3, 4, 5, 6, 7, 8, 9, 10, 11, 12, 13, 14, 15, 16, 17, 18], [0, 1, 2, 3, 4, 5, 6, 7, 8, 9, 10, 11, 12, 13, 14, 15, 16, 17, 18, 19], [0, 1, 2, 3, 4, 5, 6, 7, 8, 9, 10, 11, 12, 13, 14, 15, 16, 17, 18, 19, 20], [0, 1, 2, 3, 4, 5, 6, 7, 8, 9, 10, 11, 12, 13, 14, 15, 16, 17, 18, 19, 20, 21], [0, 1, 2, 3, 4, 5, 6, 7, 8, 9, 10, 11, 12, 13, 14, 15, 16, 17, 18, 19, 20], [0, 1, 2, 3, 4, 5, 6, 7, 8, 9, 10, 11, 12, 13, 14, 15, 16, 17, 18, 19, 20, 21, 22, 23], [0, 1, 2, 3, 4, 5, 6, 7, 8, 9, 10, 11, 12, 13, 14, 15, 16, 17, 18, 19, 20, 21, 22, 23, 24], [0, 1, 2, 3, 4, 5, 6, 7, 8, 9, 10, 11, 12, 13, 14, 15, 16, 17, 18, 19, 20, 21, 22, 23, 24, 25], [0, 1, 2, 3, 4, 5, 6, 7, 8, 9, 10, 11, 12, 13, 14, 15, 16, 17, 18, 19, 20], [0, 1, 2, 3, 4, 5, 6, 7, 8, 9, 10, 11, 12, 13, 14, 15, 16, 17, 18, 19, 20, 27], [0, 1, 2, 3, 4, 5, 6, 7, 8, 9, 10, 11, 12, 13, 14, 15, 16, 17, 18, 19, 20, 21, 22, 23, 24, 25, 26, 27, 28], [0, 1, 2, 3, 4, 5, 6, 7, 8, 9, 10, 11, 12, 13, 14, 15, 16, 17, 18, 19, 20, 21, 22, 23, 24, 25, 26, 27, 28, 29]] [] (by kernel_rfl) (by kernel_rfl) (by simp [apartW, unordB, cC] <;> omega)) | (apply Xg.s; constructor)) | (apply Ab.K.at_; exact at_) | (apply Ab.K.acall; first | assumption | fail) | (apply Ab.Rg.mk; omega) | (apply Ab.Lt.mk; first | decide | (simp; done) | (simp; omega) | first | omega | (show (0 + 5 : Nat) < 5 + 1; decide) | (show (0 + 4 : Nat) < 5; decide)) | (apply Ab.Get.mk; first | rfl | first | rfl | (rw [Int.toNat_natCast]; first | exact g2 | exact g3 | exact g4)) | (apply Ab.Nm.mk; first | first | exact Eq.trans (congrArg (fun z => List.take _ (List.drop (z * 5) cs)) (Int.toNat_natCast i)) hE | exact (show ((kc x).drop 0).take 5 = kc x from rfl) | exact nrm_) | (apply Xg.s; constructor) | (apply Ab.asm; assumption) | rfl | infer_instance | decide))
      exact X.roundN (m - (i + 1)) (by omega) ⟨i + 1, k, M + 1, v, ov, r, by exact ev_, by exact ev_, by exact ev_, by exact ev_, by exact ev_, a12, G2, hk, hnx, F2, T2, by omega, by omega, rfl⟩
    obtain ⟨y, hy⟩ : ∃ y : Kn, y = { x with md := x.md && r1.md } := ⟨_, rfl⟩
    have hnx : r ++ [y] = (L.take (i + 1)).flatMap (fun x => L.filterMap (mt x)) := by
      rw [hfm _ hia]; unfold VP.mt; rw [if_pos ⟨hA, hk2.symm, hk1.symm, hw.symm, hss.symm⟩, hy]; rfl
    have hset : ∀ b, b = y.md → (kc x).set (0 + 4) (.bool b) = kc y := fun b hb => by rw [hb, hy]; rfl


    cases hmd : x.md
    case' false => have hmd2 : false = y.md := by rw [hy]; show false = (x.md && r1.md); rw [hmd]; rfl
    case' true => have hmd2 : r1.md = y.md := by rw [hy]; show r1.md = (x.md && r1.md); rw [hmd]; rfl
    all_goals
      (repeat' (first | (apply Ab.K.ev; exact ev_) | (apply Ab.K.aops; first | (apply Xg.s; constructor) | (apply Ab.S.guardU; (case hd => rfl); (case hb => (exact ev_; done))) | apply Ab.S.guardG) | (apply Ab.K.aop; first | (apply Ab.O.build1A (M + 1); (case hx => exact ev_); (case hl => rfl); (case hz => exact ⟨rfl, rfl⟩); (case hes => decide); (case hid => exact free_)) | (apply Og.s; constructor)) | (apply Ab.K.gk; first | (apply Xg.s; constructor) | (apply Ab.gY; case hw => assumption) | (apply Ab.gNT; case hw => assumption) | (apply Ab.gNF; case hw => assumption) | ((first | apply Ab.gD | apply Ab.gDN); all_goals (intro _ _; (first | contradiction | (exfalso; omega) | skip)))) | (apply Ab.K.aopsD; first | (apply Ab.D.q0t; (case hw => rfl); (case hot => rfl)) | (apply Ab.D.w1t; (case hw => rfl); (case hot => rfl)) | (apply Ab.D.q0; (case hw => rfl); intro _ _) | (apply Ab.D.w1n; (case hw => rfl); intro _ _) | (apply Ab.D.w2n; (case hw => rfl); intro _ _) | (apply Xg.s; constructor) | (apply Ab.D.guardU; (case hd => rfl); (case hb => (exact ev_; done))) | apply Ab.D.guardG) | exact ⟨rfl, rfl⟩ | (apply Ab.K.awp; first | (apply AWp.draw (id := 9) [[], [0], [], [2], [0, 1, 2, 3], [0, 1, 2, 3, 4], [0, 1, 2, 3, 4, 5], [0, 1, 2, 3, 4, 5, 6], [0, 1, 2, 3, 4, 5, 6, 7], [0, 1, 2, 3, 4, 5, 6, 7, 8], [0, 1, 2, 3, 4, 5, 6, 7, 8, 9], [0, 1, 2, 3, 4, 5, 6, 7, 8, 9, 10], [0, 1, 2, 3, 4, 5, 6, 7, 8, 9], [0, 1, 2, 3, 4, 5, 6, 7, 8, 9, 10, 11, 12], [0, 1, 2, 3, 4, 5, 6, 7, 8, 9, 10, 11, 12, 13], [0, 1, 2, 3, 4, 5, 6, 7, 8, 9, 10, 11, 12, 13, 14], [0, 1, 2, 3, 4, 5, 6, 7, 8, 9], [0, 1, 2, 3, 4, 5, 6, 7, 8, 9, 16], [0, 1, 2, 3, 4, 5, 6, 7, 8, 9, 10, 11, 12, 13, 14, 15, 16, 17], [0, 1, 2, 3, 4, 5, 6, 7, 8, 9, 10, 11, 12, 13, 14, 15, 16, 17, 18], [0, 1, 2, 3, 4, 5, 6, 7, 8, 9, 10, 11, 12, 13, 14, 15, 16, 17, 18, 19], [0, 1, 2, 3, 4, 5, 6, 7, 8, 9, 10, 11, 12, 13, 14, 15, 16, 17, 18, 19, 20], [0, 1, 2, 3, 4, 5, 6, 7, 8, 9, 10, 11, 12, 13, 14, 15, 16, 17, 18, 19, 20, 21], [0, 1, 2, 3, 4, 5, 6, 7, 8, 9, 10, 11, 12, 13, 14, 15, 16, 17, 18, 19, 20], [0, 1, 2, 3, 4, 5, 6, 7, 8, 9, 10, 11, 12, 13, 14, 15, 16, 17, 18, 19, 20, 21, 22, 23], [0, 1, 2, 3, 4, 5, 6, 7, 8, 9, 10, 11, 12, 13, 14, 15, 16, 17, 18, 19, 20, 21, 22, 23, 24], [0, 1, 2, 3, 4, 5, 6, 7, 8, 9, 10, 11, 12, 13, 14, 15, 16, 17, 18, 19, 20, 21, 22, 23, 24, 25], [0, 1, 2, 3, 4, 5, 6, 7, 8, 9, 10, 11, 12, 13, 14, 15, 16, 17, 18, 19, 20], [0, 1, 2, 3, 4, 5, 6, 7, 8, 9, 10, 11, 12, 13, 14, 15, 16, 17, 18, 19, 20, 27], [0, 1, 2, 3, 4, 5, 6, 7, 8, 9, 10, 11, 12, 13, 14, 15, 16, 17, 18, 19, 20, 21, 22, 23, 24, 25, 26, 27, 28], [0, 1, 2, 3, 4, 5, 6, 7, 8, 9, 10, 11, 12, 13, 14, 15, 16, 17, 18, 19, 20, 21, 22, 23, 24, 25, 26, 27, 28, 29]] [] (by kernel_rfl) (by kernel_rfl) (by simp [apartW, unordB, cC] <;> omega)) | (apply Xg.s; constructor)) | (apply Ab.K.at_; exact at_) | (apply Ab.K.acall; first | assumption | fail) | (apply Ab.Rg.mk; omega) | (apply Ab.Lt.mk; first | decide | (simp; done) | (simp; omega) | first | omega | (show (0 + 5 : Nat) < 5 + 1; decide) | (show (0 + 4 : Nat) < 5; decide)) | (apply Ab.Get.mk; first | rfl | first | rfl | (rw [Int.toNat_natCast]; first | exact g2 | exact g3 | exact g4)) | (apply Ab.Nm.mk; first | first | exact (show ((kc y).drop 0).take 5 = kc y from rfl) | exact hset _ hmd2 | exact nrm_) | (apply Xg.s; constructor) | (apply Ab.asm; assumption) | rfl | infer_instance | decide))
    all_goals
      have T3 : Top (M + 1) (s2.set M (.cells true 1 (kc y))) := T2.set (by omega)
      have F3 : Fr (s2.set M (.cells true 1 (kc y))) s [] := by rw [hs2, AHeap.set_set, AHeap.set_set]; exact Fr.new (hT.free (by omega)) F
      have G3 : Gr (s2.set M (.cells true 1 (kc y))) 5 (N + 1) v ov k (kcs r) := G2.set (fun q e => by have := hlt q e; omega)
      have G4 : Gr ((s2.set M (.cells true 1 (kc y))).set (M + 1) (.cells true 5 (kc y))) 5 (N + 1) v ov k (kcs r) := G3.set (fun q e => by have := hlt q e; omega)
      have b1 : At ((s2.set M (.cells true 1 (kc y))).set (M + 1) (.cells true 5 (kc y))) N (.cells true 1 [.slice A n c, .slice (some ⟨q, 0, none⟩) m d]) := At.miss (by omega) (At.miss (by omega) a12)
      clear G2 G3
      (apply Ab.O.appendL (M + 2); (case hx => exact ev_); (case hL => exact Ab.Gr.lat (by assumption)); (case hy => exact ev_); (case hs => exact srcAll At.hit rfl); (case hk => rfl); (case hm => decide); (case hl => first | rfl | simp); (case hz => decide); (case hb => omega); (case hfree => exact free_))
      intro s4 g
      have T5 := G4.topN g T3.new
      have F5 := G4.frN g (Fr.new (hT.free (by omega)) F3) (hT.mono (by omega))
      have b5 := Gr.off g b1 (fun q e => by have := hge q e; omega) (by omega)
      rw [show kcs r ++ kc y = kcs (r ++ [y]) from by rw [kcs_append]; simp [kcs]] at g
      have G5 : Gr s4 5 (N + 1) _ _ (k + 1) _ := Gr.app g (by rw [kcs_length, List.length_append, hk]; rfl) (by omega)
      (repeat' (first | (apply Ab.K.ev; exact ev_) | (apply Ab.K.aops; first | (apply Xg.s; constructor) | (apply Ab.S.guardU; (case hd => rfl); (case hb => (exact ev_; done))) | apply Ab.S.guardG) | (apply Ab.K.aop; first | (apply Og.s; constructor)) | (apply Ab.K.gk; first | (apply Xg.s; constructor) | (apply Ab.gY; case hw => assumption) | (apply Ab.gNT; case hw => assumption) | (apply Ab.gNF; case hw => assumption) | ((first | apply Ab.gD | apply Ab.gDN); all_goals (intro _ _; (first | contradiction | (exfalso; omega) | skip)))) | (apply Ab.K.awp; first | (apply Xg.s; constructor)) | (apply Ab.K.at_; exact at_) | (apply Ab.K.acall; first | assumption | fail) | (apply Ab.Rg.mk; omega) | (apply Ab.Lt.mk; first | decide | (simp; done) | (simp; omega) | first | omega | (show (0 + 5 : Nat) < 5 + 1; decide) | (show (0 + 4 : Nat) < 5; decide)) | (apply Ab.Get.mk; first | rfl | first | rfl | (rw [Int.toNat_natCast]; first | exact g2 | exact g3 | exact g4)) | (apply Ab.Nm.mk; first | first | exact (show ((kc y).drop 0).take 5 = kc y from rfl) | exact hset _ hmd2 | exact nrm_) | (apply Xg.s; constructor) | (apply Ab.asm; assumption) | rfl | infer_instance | decide))
      exact X.roundN (m - (i + 1)) (by omega) ⟨i + 1, k + 1, M + 3, _, _, r ++ [y], by exact ev_, by exact ev_, by exact ev_, by exact ev_, by exact ev_, b5, G5, by rw [List.length_append, hk]; rfl, hnx, F5, T5, by omega, by omega, rfl⟩
  · obtain rfl : i = m := by omega
    have hr2 : r = inn L := by rw [hr, hml, List.take_length]; rfl
    obtain ⟨s', hs', _, hkeep⟩ := G.newL F (hT.mono (by omega)) (kcs_pl _)
    have hq : ∃ w, Value.tuple #[v, .int .i64 0] = .tuple #[w, .int .i64 0] ∧ NewL s 5 w (inn L).length (kcs (inn L)) s' := ⟨v, rfl, by rw [← hr2, ← hk]; exact hs'⟩
    have hk0 := hkeep .i64 0
    rcases hs'.val with rfl | ⟨u, rfl⟩
    all_goals
      (repeat' (first | (apply Ab.K.ev; exact ev_) | (apply Ab.K.aops; first | (apply Xg.s; constructor) | (apply Ab.S.guardU; (case hd => rfl); (case hb => (exact ev_; done))) | apply Ab.S.guardG) | (apply Ab.K.aop; first | (apply Og.s; constructor)) | (apply Ab.K.gk; first | (apply Xg.s; constructor) | (apply Ab.gY; case hw => assumption) | (apply Ab.gNT; case hw => assumption) | (apply Ab.gNF; case hw => assumption) | ((first | apply Ab.gD | apply Ab.gDN); all_goals (intro _ _; (first | contradiction | (exfalso; omega) | skip)))) | (apply Ab.K.awp; first | (apply Xg.s; constructor)) | (apply Ab.K.at_; exact at_) | (apply Ab.K.acall; first | assumption | fail) | (apply Ab.Rg.mk; omega) | (apply Ab.Lt.mk; first | decide | (simp; done) | (simp; omega) | first | omega | (show (0 + 5 : Nat) < 5 + 1; decide) | (show (0 + 4 : Nat) < 5; decide)) | (apply Ab.Get.mk; first | rfl | first | rfl | (rw [Int.toNat_natCast]; first | exact g2 | exact g3 | exact g4)) | (apply Ab.Nm.mk; first | first | exact (show ((kc y).drop 0).take 5 = kc y from rfl) | exact hset _ hmd2 | exact nrm_) | (apply Xg.s; constructor) | (apply Ab.asm; assumption) | rfl | infer_instance | decide))
      all_goals ((first | apply RetE.ret | apply RetE.normal); (case he => exact evr_); (case hg => rfl))
      · exact hq
      · exact hk0
end Go.Proofs.Ytdbnpghckgmaoaa

/- trees: the document's heaviest edge, and all behind a node. -/
namespace Go.Proofs.Ytdbnpghckgmaoaa
set_option linter.unusedVariables false
set_option linter.unusedSimpArgs false
set_option linter.unusedSectionVars false
open Go.RowKit Ab TP
attribute [local irreducible] AOps AOpsD AOp AWp put nargs AHeap.set At Free ACall thenQ blockQ roundQ RetQ Src bsn





/-! ### all behind a node -/
noncomputable def belB (l : List E) (root a : Int) (i : Nat) : Bool := open Classical in decide (TP.Node root ∧ ∃ p, TP.Way l root i p ∧ a ∈ p)
theorem belB_iff {l : List E} {root a : Int} {i : Nat} : belB l root a i = true ↔ TP.Node root ∧ ∃ p, TP.Way l root i p ∧ a ∈ p := by simp [belB]
noncomputable def bel (l : List E) (root a : Int) : List Int := lkN (belB l root a) 64










end Go.Proofs.Ytdbnpghckgmaoaa

/- trees: the first edge of a kind, by a function that may change memory. -/
namespace Go.Proofs.Ytdbnpghckgmaoaa
set_option linter.unusedVariables false
set_option linter.unusedSimpArgs false
set_option linter.unusedSectionVars false
open Go.RowKit Ab TP
attribute [local irreducible] AOps AOpsD AOp AWp put nargs AHeap.set At Free ACall ACallE thenQ blockQ roundQ RetQ RetE Src bsn
theorem index38 {s : AHeap} {A : Option Addr} {n c : Nat} {l : List E} {fn : FuncId} {caps : Array Value} {b : Nat → Bool} (Inv : Nat → AHeap → Prop) (hE : ∀ i s1, Inv i s1 → ∃ on, EA s1 (.slice A n c) on l) (hX : ∀ i s1, Inv i s1 → Ext s1 s)
    (hF : ∀ i e s1, l[i]? = some e → (∀ j, j < i → b j = false) → Inv i s1 → ACallE Try.prog fn (.agg (ec e).toArray :: caps.toList) s1 (fun v s' => v = .bool (b i) ∧ Inv (i + 1) s')) (h0 : Inv 0 s) (hn : n ≤ 512) :
    ACallE Try.prog 53 [.slice A n c, .func (.func fn) #[] caps] s (fun v s' => (∃ i, i < n ∧ b i = true ∧ (∀ j, j < i → b j = false) ∧ v = .int .i64 i ∧ Inv (i + 1) s') ∨ ((∀ j, j < n → b j = false) ∧ v = .int .i64 (-1) ∧ Inv n s')) := by
  have hnl : n = l.length := by obtain ⟨on, h⟩ := hE 0 s h0; obtain ⟨_, _, e⟩ := h.isl; injection e
  refine ACallE.make Try.func53 rfl (by kernel_rfl) (by decide) rfl (fun N hN => ?_)
  clear hN
  (repeat' (first | (apply Ab.K.ev; exact ev_) | (apply Ab.K.aops; first | (apply Xg.s; constructor) | (apply Ab.S.guardU; (case hd => rfl); (case hb => (exact ev_; done))) | apply Ab.S.guardG) | (apply Ab.K.aop; first | (apply Og.s; constructor)) | (apply Ab.K.gk; first | (apply Xg.s; constructor) | (apply Ab.gY; case hw => assumption) | (apply Ab.gNT; case hw => assumption) | (apply Ab.gNF; case hw => assumption) | ((first | apply Ab.gD | apply Ab.gDN); all_goals (intro _ _; (first | contradiction | (exfalso; omega) | skip)))) | (apply Ab.K.awp; first | (apply Xg.s; constructor)) | (apply Ab.K.at_; exact at_) | (apply Ab.K.acall; first | assumption | fail) | (apply Ab.Rg.mk; omega) | (apply Ab.Lt.mk; first | decide | (simp; done) | (simp; omega) | fail) | (apply Ab.Get.mk; first | rfl | fail) | (apply Ab.Nm.mk; first | exact nrm_) | (apply Xg.s; constructor) | (apply Ab.asm; assumption) | rfl | infer_instance | decide))
  refine AWp.loop (fun kk tm s1 => ∃ i : Nat, Ev tm (.tmp 0) (.slice A n c) ∧ Ev tm (.tmp 1) (.func (.func fn) #[] caps) ∧ Ev tm (.tmp 7) (.int .i64 n) ∧ Ev tm (.tmp 8) (.int .i64 i) ∧ Inv i s1 ∧ (∀ j, j < i → b j = false) ∧ i ≤ n ∧ kk = n - i) n ?_ ?_
  · exact ⟨0, by exact ev_, by exact ev_, by exact ev_, by exact ev_, h0, fun j hj => by omega, by omega, rfl⟩
  rintro kk tm s1 ⟨i, e0, e1, e7, e8, hI, hb, hi, hkk⟩
  by_cases hin : i < n
  · have hi' : l[i]? = some (l[i]'(by omega)) := List.getElem?_eq_getElem (by omega)
    obtain ⟨e, hee⟩ : ∃ e, e = l[i]'(by omega) := ⟨_, rfl⟩
    rw [← hee] at hi'
    obtain ⟨on, hE1⟩ := hE i s1 hI
    obtain ⟨q, rw1, cs, rfl, _, _, hq, _, hc3, _⟩ := hE1.elt hi'
    have hc := hF i e s1 hi' hb hI


    (repeat' (first | (apply Ab.K.ev; exact ev_) | (apply Ab.K.aops; first | (apply Xg.s; constructor) | (apply Ab.S.guardU; (case hd => rfl); (case hb => (exact ev_; done))) | apply Ab.S.guardG) | (apply Ab.K.aop; first | (apply Ab.O.callE; (case hf => exact ev_); (case ha => exact evs_); (case hc => exact hc)) | (apply Og.s; constructor)) | (apply Ab.K.gk; first | (apply Xg.s; constructor) | (apply Ab.gY; case hw => assumption) | (apply Ab.gNT; case hw => assumption) | (apply Ab.gNF; case hw => assumption) | ((first | apply Ab.gD | apply Ab.gDN); all_goals (intro _ _; (first | contradiction | (exfalso; omega) | skip)))) | (apply Ab.K.awp; first | (apply Xg.s; constructor)) | (apply Ab.K.at_; exact at_) | (apply Ab.K.acall; first | assumption | fail) | (apply Ab.Rg.mk; omega) | (apply Ab.Lt.mk; first | decide | (simp; done) | (simp; omega) | omega) | (apply Ab.Get.mk; first | rfl | fail) | (apply Ab.Nm.mk; first | exact Eq.trans (congrArg (fun z => List.take _ (List.drop (z * 3) cs)) (Int.toNat_natCast i)) hc3 | exact nrm_) | (apply Xg.s; constructor) | (apply Ab.asm; assumption) | rfl | infer_instance | decide))
    rintro v s2 ⟨rfl, hI2⟩
    clear hc hq hE1
    cases hbi : b i
    · (repeat' (first | (apply Ab.K.ev; exact ev_) | (apply Ab.K.aops; first | (apply Xg.s; constructor) | (apply Ab.S.guardU; (case hd => rfl); (case hb => (exact ev_; done))) | apply Ab.S.guardG) | (apply Ab.K.aop; first | (apply Og.s; constructor)) | (apply Ab.K.gk; first | (apply Xg.s; constructor) | (apply Ab.gY; case hw => assumption) | (apply Ab.gNT; case hw => assumption) | (apply Ab.gNF; case hw => assumption) | ((first | apply Ab.gD | apply Ab.gDN); all_goals (intro _ _; (first | contradiction | (exfalso; omega) | skip)))) | (apply Ab.K.awp; first | (apply Xg.s; constructor)) | (apply Ab.K.at_; exact at_) | (apply Ab.K.acall; first | assumption | fail) | (apply Ab.Rg.mk; omega) | (apply Ab.Lt.mk; first | decide | (simp; done) | (simp; omega) | omega) | (apply Ab.Get.mk; first | rfl | fail) | (apply Ab.Nm.mk; first | exact Eq.trans (congrArg (fun z => List.take _ (List.drop (z * 3) cs)) (Int.toNat_natCast i)) hc3 | exact nrm_) | (apply Xg.s; constructor) | (apply Ab.asm; assumption) | rfl | infer_instance | decide))
      exact X.roundN (n - (i + 1)) (by omega) ⟨i + 1, by exact ev_, by exact ev_, by exact ev_, by exact ev_, hI2, fun j hj => (by
        by_cases e : j = i
        · rw [e]; exact hbi
        · exact hb j (by omega)), by omega, rfl⟩
    · (repeat' (first | (apply Ab.K.ev; exact ev_) | (apply Ab.K.aops; first | (apply Xg.s; constructor) | (apply Ab.S.guardU; (case hd => rfl); (case hb => (exact ev_; done))) | apply Ab.S.guardG) | (apply Ab.K.aop; first | (apply Og.s; constructor)) | (apply Ab.K.gk; first | (apply Xg.s; constructor) | (apply Ab.gY; case hw => assumption) | (apply Ab.gNT; case hw => assumption) | (apply Ab.gNF; case hw => assumption) | ((first | apply Ab.gD | apply Ab.gDN); all_goals (intro _ _; (first | contradiction | (exfalso; omega) | skip)))) | (apply Ab.K.awp; first | (apply Xg.s; constructor)) | (apply Ab.K.at_; exact at_) | (apply Ab.K.acall; first | assumption | fail) | (apply Ab.Rg.mk; omega) | (apply Ab.Lt.mk; first | decide | (simp; done) | (simp; omega) | omega) | (apply Ab.Get.mk; first | rfl | fail) | (apply Ab.Nm.mk; first | exact Eq.trans (congrArg (fun z => List.take _ (List.drop (z * 3) cs)) (Int.toNat_natCast i)) hc3 | exact nrm_) | (apply Xg.s; constructor) | (apply Ab.asm; assumption) | rfl | infer_instance | decide))
      all_goals ((first | apply RetE.ret | apply RetE.normal); (case he => exact evr_); (case hg => rfl))
      all_goals first | exact .inl ⟨i, hin, hbi, hb, rfl, hI2⟩ | exact Keeps.ext (hX _ _ hI2) (plR.nm rfl)
  · obtain rfl : i = n := by omega
    (repeat' (first | (apply Ab.K.ev; exact ev_) | (apply Ab.K.aops; first | (apply Xg.s; constructor) | (apply Ab.S.guardU; (case hd => rfl); (case hb => (exact ev_; done))) | apply Ab.S.guardG) | (apply Ab.K.aop; first | (apply Og.s; constructor)) | (apply Ab.K.gk; first | (apply Xg.s; constructor) | (apply Ab.gY; case hw => assumption) | (apply Ab.gNT; case hw => assumption) | (apply Ab.gNF; case hw => assumption) | ((first | apply Ab.gD | apply Ab.gDN); all_goals (intro _ _; (first | contradiction | (exfalso; omega) | skip)))) | (apply Ab.K.awp; first | (apply Xg.s; constructor)) | (apply Ab.K.at_; exact at_) | (apply Ab.K.acall; first | assumption | fail) | (apply Ab.Rg.mk; omega) | (apply Ab.Lt.mk; first | decide | (simp; done) | (simp; omega) | omega) | (apply Ab.Get.mk; first | rfl | fail) | (apply Ab.Nm.mk; first | exact Eq.trans (congrArg (fun z => List.take _ (List.drop (z * 3) cs)) (Int.toNat_natCast i)) hc3 | exact nrm_) | (apply Xg.s; constructor) | (apply Ab.asm; assumption) | rfl | infer_instance | decide))
    all_goals ((first | apply RetE.ret | apply RetE.normal); (case he => exact evr_); (case hg => rfl))
    all_goals first | exact .inr ⟨hb, rfl, hI⟩ | exact Keeps.ext (hX _ _ hI) (plR.nm rfl)
theorem contains45 {s : AHeap} {A : Option Addr} {n c : Nat} {l : List E} {fn : FuncId} {caps : Array Value} {b : Nat → Bool} (Inv : Nat → AHeap → Prop) (hE : ∀ i s1, Inv i s1 → ∃ on, EA s1 (.slice A n c) on l) (hX : ∀ i s1, Inv i s1 → Ext s1 s)
    (hF : ∀ i e s1, l[i]? = some e → (∀ j, j < i → b j = false) → Inv i s1 → ACallE Try.prog fn (.agg (ec e).toArray :: caps.toList) s1 (fun v s' => v = .bool (b i) ∧ Inv (i + 1) s')) (h0 : Inv 0 s) (hn : n ≤ 512) :
    ACallE Try.prog 47 [.slice A n c, .func (.func fn) #[] caps] s (fun v s' => (∃ i, i < n ∧ b i = true ∧ (∀ j, j < i → b j = false) ∧ v = .bool true ∧ Inv (i + 1) s') ∨ ((∀ j, j < n → b j = false) ∧ v = .bool false ∧ Inv n s')) := by
  have hc := index38 Inv hE hX hF h0 hn
  refine ACallE.make Try.func47 rfl (by kernel_rfl) (by decide) rfl (fun N hN => ?_)
  clear hN
  (repeat' (first | (apply Ab.K.ev; exact ev_) | (apply Ab.K.aops; first | (apply Xg.s; constructor) | (apply Ab.S.guardU; (case hd => rfl); (case hb => (exact ev_; done))) | apply Ab.S.guardG) | (apply Ab.K.aop; first | (apply Ab.O.callFE; (case ha => exact evs_); (case hc => exact hc)) | (apply Og.s; constructor)) | (apply Ab.K.gk; first | (apply Xg.s; constructor) | (apply Ab.gY; case hw => assumption) | (apply Ab.gNT; case hw => assumption) | (apply Ab.gNF; case hw => assumption) | ((first | apply Ab.gD | apply Ab.gDN); all_goals (intro _ _; (first | contradiction | (exfalso; omega) | skip)))) | (apply Ab.K.awp; first | (apply Xg.s; constructor)) | (apply Ab.K.at_; exact at_) | (apply Ab.K.acall; first | assumption | fail) | (apply Ab.Rg.mk; omega) | (apply Ab.Lt.mk; first | decide | (simp; done) | (simp; omega) | omega) | (apply Ab.Get.mk; first | rfl | fail) | (apply Ab.Nm.mk; first | exact Eq.trans (congrArg (fun z => List.take _ (List.drop (z * 3) cs)) (Int.toNat_natCast i)) hc3 | exact nrm_) | (apply Xg.s; constructor) | (apply Ab.asm; assumption) | rfl | infer_instance | decide))
  rintro v s2 (⟨i, h1, h2, h3, rfl, hI⟩ | ⟨h1, rfl, hI⟩)
  · clear hc
    (repeat' (first | (apply Ab.K.ev; exact ev_) | (apply Ab.K.aops; first | (apply Xg.s; constructor) | (apply Ab.S.guardU; (case hd => rfl); (case hb => (exact ev_; done))) | apply Ab.S.guardG) | (apply Ab.K.aop; first | (apply Og.s; constructor)) | (apply Ab.K.gk; first | (apply Xg.s; constructor) | (apply Ab.gY; case hw => assumption) | (apply Ab.gNT; case hw => assumption) | (apply Ab.gNF; case hw => assumption) | ((first | apply Ab.gD | apply Ab.gDN); all_goals (intro _ _; (first | contradiction | (exfalso; omega) | skip)))) | (apply Ab.K.awp; first | (apply Xg.s; constructor)) | (apply Ab.K.at_; exact at_) | (apply Ab.K.acall; first | assumption | fail) | (apply Ab.Rg.mk; omega) | (apply Ab.Lt.mk; first | decide | (simp; done) | (simp; omega) | omega) | (apply Ab.Get.mk; first | rfl | fail) | (apply Ab.Nm.mk; first | exact Eq.trans (congrArg (fun z => List.take _ (List.drop (z * 3) cs)) (Int.toNat_natCast i)) hc3 | exact nrm_) | (apply Xg.s; constructor) | (apply Ab.asm; assumption) | rfl | infer_instance | decide))
    all_goals ((first | apply RetE.ret | apply RetE.normal); (case he => exact evr_); (case hg => rfl))
    all_goals first | exact .inl ⟨i, h1, h2, h3, congrArg Value.bool (by simp), hI⟩ | exact Keeps.ext (hX _ _ hI) (plR.nm rfl)
  · clear hc
    (repeat' (first | (apply Ab.K.ev; exact ev_) | (apply Ab.K.aops; first | (apply Xg.s; constructor) | (apply Ab.S.guardU; (case hd => rfl); (case hb => (exact ev_; done))) | apply Ab.S.guardG) | (apply Ab.K.aop; first | (apply Og.s; constructor)) | (apply Ab.K.gk; first | (apply Xg.s; constructor) | (apply Ab.gY; case hw => assumption) | (apply Ab.gNT; case hw => assumption) | (apply Ab.gNF; case hw => assumption) | ((first | apply Ab.gD | apply Ab.gDN); all_goals (intro _ _; (first | contradiction | (exfalso; omega) | skip)))) | (apply Ab.K.awp; first | (apply Xg.s; constructor)) | (apply Ab.K.at_; exact at_) | (apply Ab.K.acall; first | assumption | fail) | (apply Ab.Rg.mk; omega) | (apply Ab.Lt.mk; first | decide | (simp; done) | (simp; omega) | omega) | (apply Ab.Get.mk; first | rfl | fail) | (apply Ab.Nm.mk; first | exact Eq.trans (congrArg (fun z => List.take _ (List.drop (z * 3) cs)) (Int.toNat_natCast i)) hc3 | exact nrm_) | (apply Xg.s; constructor) | (apply Ab.asm; assumption) | rfl | infer_instance | decide))
    all_goals ((first | apply RetE.ret | apply RetE.normal); (case he => exact evr_); (case hg => rfl))
    all_goals first | exact .inr ⟨h1, rfl, hI⟩ | exact Keeps.ext (hX _ _ hI) (plR.nm rfl)
end Go.Proofs.Ytdbnpghckgmaoaa

/- trees: one behind the other. -/
namespace Go.Proofs.Ytdbnpghckgmaoaa
set_option linter.unusedVariables false
set_option linter.unusedSimpArgs false
set_option linter.unusedSectionVars false
open Go.RowKit Ab TP
attribute [local irreducible] AOps AOpsD AOp AWp put nargs AHeap.set At Free ACall ACallE thenQ blockQ roundQ RetQ RetE Src bsn
theorem other_has {e : E} {n : Int} (h : 0 < other e n) : e.has n (other e n) := by
  unfold other at *
  split
  · rename_i h1; exact .inl ⟨h1, rfl⟩
  · rename_i h1
    rw [if_neg h1] at h
    split
    · rename_i h2; exact .inr ⟨rfl, h2⟩
    · rename_i h2; rw [if_neg h2] at h; omega
theorem has_other {e : E} (hm : e.may) {n y : Int} (h : e.has n y) : other e n = y := by
  have := hm.2.2.1
  unfold other
  rcases h with ⟨h1, h2⟩ | ⟨h1, h2⟩
  · rw [if_pos h1, h2]
  · rw [if_neg (by omega), if_pos h2, h1]
theorem ints_zeros (n : Nat) : ints (List.replicate n (0 : Int)) = List.replicate n (.int .i64 0) := by simp [ints]
set_option maxRecDepth 4000 in
set_option maxHeartbeats 4000000 in
theorem ups30 {s : AHeap} {A : Option Addr} {n c : Nat} {on : Option Nat} {l : List E} {root : Int} (h : EA s (.slice A n c) on l) (hg : TP.Good l) (hr : TP.Node root) (hn : n ≤ 512) :
    ACallE Try.prog 51 [.slice A n c, .int .i64 root] s (fun v s' => ∃ U Q u, v = .slice (some ⟨u, 0, none⟩) 65 65 ∧ s u = none ∧ s' = s.set u (.cells true 1 (ints U)) ∧ Bfs l root U Q Q) := by
  have hnl : n = l.length := by obtain ⟨_, _, e⟩ := h.isl; injection e
  have hr' : 1 ≤ root ∧ root ≤ 64 := hr
  refine ACallE.make Try.func51 rfl (by kernel_rfl) (by decide) rfl (fun N hN => ?_)
  have hT : Top N s := hN
  have hmk : amakeSlice Try.prog 22 s (.int .i64 65) (.int .i64 65) N = some (.slice (some ⟨N, 0, none⟩) 65 65, s.set N (.cells true 1 (ints (List.replicate 65 0)))) := by
    have h25 : tdOf Try.prog 22 = some ⟨.slice 3, 1, 24, .slice none 0 0⟩ := by kernel_rfl
    have h3 : tdOf Try.prog 3 = some ⟨.int .i64, 1, 8, .int .i64 0⟩ := by kernel_rfl
    have hf := hT.none (Nat.le_refl N)
    simp only [amakeSlice, h25, h3]
    simp [hf, plB, pl1, plA, Value.cells, zrep, ints]


  (repeat' (first | (apply Ab.K.ev; exact ev_) | (apply Ab.K.aops; first | (apply Xg.s; constructor) | (apply Ab.S.guardU; (case hd => rfl); (case hb => (exact ev_; done))) | apply Ab.S.guardG) | (apply Ab.K.aop; first | (first | (apply Ab.O.makeSlice N; (case hx => exact ev_); (case hy => exact ev_); (case hv => exact hmk)) | (apply Ab.O.build1 (N + 1); (case hx => exact ev_); (case hv => exact ⟨rfl, rfl⟩); (case hz => exact ⟨rfl, rfl⟩); (case hid => exact free_))) | (apply Og.s; constructor)) | (apply Ab.K.gk; first | (apply Xg.s; constructor) | (apply Ab.gY; case hw => assumption) | (apply Ab.gNT; case hw => assumption) | (apply Ab.gNF; case hw => assumption) | ((first | apply Ab.gD | apply Ab.gDN); all_goals (intro _ _; (first | contradiction | (exfalso; omega) | skip)))) | (apply Ab.K.awp; first | (apply Xg.s; constructor)) | (apply Ab.K.at_; exact at_) | (apply Ab.K.acall; first | assumption | fail) | (apply Ab.Rg.mk; omega) | (apply Ab.Lt.mk; first | decide | (simp; done) | (simp; omega) | (rw [ints_length]; simp; omega)) | (apply Ab.Get.mk; first | rfl | fail) | (apply Ab.Nm.mk; first | exact ints_set _ _ _ | exact nrm_) | (apply Xg.s; constructor) | (apply Ab.asm; assumption) | rfl | infer_instance | decide))
  have B0 := Bfs.start (l := l) hr
  refine AWp.loop (fun kk tm s1 => ∃ (u q off M : Nat) (U cl todo : List Int) (cs : List Value), Ev tm (.tmp 0) (.slice A n c) ∧ Ev tm (.tmp 5) (.slice (some ⟨u, 0, none⟩) 65 65) ∧ Ev tm (.tmp 6) (.slice (some ⟨q, off, none⟩) todo.length todo.length) ∧ At s1 u (.cells true 1 (ints U)) ∧ At s1 q (.cells true 1 cs) ∧ off + todo.length ≤ cs.length ∧ (cs.drop off).take todo.length = ints todo ∧ u ≠ q ∧ N ≤ u ∧ N ≤ q ∧ Fr s1 s [] ∧ Top M s1 ∧ Bfs l root U cl (cl ++ todo) ∧ kk = 64 - cl.length) 64 ?_ ?_
  · exact ⟨N, N + 1, 0, N + 2, _, [], [root], [.int .i64 root], by exact ev_, by exact ev_, by exact ev_, by exact at_, by exact at_, by simp, rfl, by omega, Nat.le_refl _, by omega, by exact fr_, by exact top_, B0, rfl⟩
  clear B0 hmk
  rintro kk tm s1 ⟨u, q, off, M, U, cl, todo, cs, e0, e5, e6, a5, a6, hcs, hct, huq, hu, hq, F, T, B, hkk⟩
  have huM := T.lt a5
  have hqM := T.lt a6
  have hlen := pigeon 64 _ B.ord B.node
  rw [List.length_append] at hlen
  cases todo with
  | nil =>
    rw [List.append_nil] at B
    (repeat' (first | (apply Ab.K.ev; exact ev_) | (apply Ab.K.aops; first | (apply Xg.s; constructor) | (apply Ab.S.guardU; (case hd => rfl); (case hb => (exact ev_; done))) | apply Ab.S.guardG) | (apply Ab.K.aop; first | (apply Og.s; constructor)) | (apply Ab.K.gk; first | (apply Xg.s; constructor) | (apply Ab.gY; case hw => assumption) | (apply Ab.gNT; case hw => assumption) | (apply Ab.gNF; case hw => assumption) | ((first | apply Ab.gD | apply Ab.gDN); all_goals (intro _ _; (first | contradiction | (exfalso; omega) | skip)))) | (apply Ab.K.awp; first | (apply Xg.s; constructor)) | (apply Ab.K.at_; exact at_) | (apply Ab.K.acall; first | assumption | fail) | (apply Ab.Rg.mk; omega) | (apply Ab.Lt.mk; first | decide | (simp; done) | (simp; omega) | (rw [ints_length]; simp; omega)) | (apply Ab.Get.mk; first | rfl | fail) | (apply Ab.Nm.mk; first | exact ints_set _ _ _ | exact nrm_) | (apply Xg.s; constructor) | (apply Ab.asm; assumption) | rfl | infer_instance | decide))
    apply RetE.ret
    (case he => exact evr_)
    (case hg => rfl)
    (case hq => exact ⟨U, cl, u, rfl, hT.none hu, rfl, B⟩)
    exact Keeps.upd [(u, _)] (fun i _ c hc => F i (by simp) c hc) ⟨⟨a5, nm_scal (ints_pl _)⟩, trivial⟩ (updH_some (.inr (by simp)))
  | cons n0 t =>
    have hcz : ∀ j z, (n0 :: t)[j]? = some z → cs[off + j]? = some (.int .i64 z) := fun j z hz => by
      have h1 := ints_get hz
      rw [← hct, List.getElem?_take, if_pos (List.getElem?_eq_some_iff.1 hz).1, List.getElem?_drop] at h1
      exact h1
    have g0 : cs[off + 0 * 1]? = some (.int .i64 n0) := hcz 0 n0 rfl
    simp only [List.length_cons] at hlen hcs e6
    have hct2 : (cs.drop (off + 1)).take t.length = ints t := by
      have : (cs.drop off).take (n0 :: t).length = ints [n0] ++ ints t := by rw [hct]; rfl
      have h2 := congrArg (List.drop 1) this
      rw [List.drop_take, List.drop_drop] at h2
      exact h2
    have hn0 := B.node n0 (by simp)
    (repeat' (first | (apply Ab.K.ev; exact ev_) | (apply Ab.K.aops; first | (apply Xg.s; constructor) | (apply Ab.S.guardU; (case hd => rfl); (case hb => (exact ev_; done))) | apply Ab.S.guardG) | (apply Ab.K.aop; first | (apply Og.s; constructor)) | (apply Ab.K.gk; first | (apply Xg.s; constructor) | (apply Ab.gY; case hw => assumption) | (apply Ab.gNT; case hw => assumption) | (apply Ab.gNF; case hw => assumption) | ((first | apply Ab.gD | apply Ab.gDN); all_goals (intro _ _; (first | contradiction | (exfalso; omega) | skip)))) | (apply Ab.K.awp; first | (apply Xg.s; constructor)) | (apply Ab.K.at_; exact at_) | (apply Ab.K.acall; first | assumption | fail) | (apply Ab.Rg.mk; omega) | (apply Ab.Lt.mk; first | decide | (simp; done) | (simp; omega) | (rw [ints_length]; simp; omega)) | (apply Ab.Get.mk; first | rfl | first | exact g0) | (apply Ab.Nm.mk; first | exact ints_set _ _ _ | exact nrm_) | (apply Xg.s; constructor) | (apply Ab.asm; assumption) | rfl | infer_instance | decide))
    refine AWp.loop (fun k2 tm s2 => ∃ (i q off M : Nat) (U t : List Int) (cs : List Value), Ev tm (.tmp 0) (.slice A n c) ∧ Ev tm (.tmp 5) (.slice (some ⟨u, 0, none⟩) 65 65) ∧ Ev tm (.tmp 6) (.slice (some ⟨q, off, none⟩) t.length t.length) ∧ Ev tm (.tmp 7) (.int .i64 n0) ∧ Ev tm (.tmp 26) (.slice A n c) ∧ Ev tm (.tmp 27) (.int .i64 n) ∧ Ev tm (.tmp 28) (.int .i64 i) ∧ At s2 u (.cells true 1 (ints U)) ∧ At s2 q (.cells true 1 cs) ∧ off + t.length ≤ cs.length ∧ (cs.drop off).take t.length = ints t ∧ u ≠ q ∧ N ≤ q ∧ Fr s2 s [] ∧ Top M s2 ∧ Bfs l root U cl (cl ++ n0 :: t) ∧ (∀ e ∈ l.take i, ∀ y, e.has n0 y → y ∈ cl ++ n0 :: t) ∧ i ≤ n ∧ k2 = n - i) n ?_ ?_
    · exact ⟨0, q, off + 1, M, U, t, cs, by exact ev_, by exact ev_, by exact ev_, by exact ev_, by exact ev_, by exact ev_, by exact ev_, a5, a6, by omega, hct2, huq, hq, F, T, B, (fun e he => by simp at he), by omega, rfl⟩
    clear a5 a6 hct hct2 hcs hcz g0 F T B e0 e5 e6 huM hqM hq huq
    rintro k2 tm s2 ⟨i, q, off, M, U, t, cs, e0, e5, e6, e7, e26, e27, e28, a5, a6, hcs, hct, huq, hq, F, T, B, hask, hi, hk2⟩
    have huM := T.lt a5
    have hqM := T.lt a6
    have hn0' : 1 ≤ n0 ∧ n0 ≤ 64 := hn0
    by_cases hin : i < n
    · have hi' : l[i]? = some (l[i]'(by omega)) := List.getElem?_eq_getElem (by omega)
      obtain ⟨e, hee⟩ : ∃ e, e = l[i]'(by omega) := ⟨_, rfl⟩
      rw [← hee] at hi'
      have hel := List.mem_of_getElem? hi'
      have hem := hg.1 e hel
      have m1 : 1 ≤ e.a ∧ e.a ≤ 64 := hem.1
      have m2 : 1 ≤ e.b ∧ e.b ≤ 64 := hem.2.1
      have htk : l.take (i + 1) = l.take i ++ [e] := by rw [List.take_add_one, hi']; rfl
      obtain ⟨qq, rw1, ds, rfl, hon, _, hq', _, hE, _⟩ := (h.fr F).elt hi'
      have hqN := h.lt hT qq hon
      have c36 : ∀ s : AHeap, ACall Try.prog 40 [.agg (ec e).toArray, .int .i64 n0] s (.int .i64 (other e n0)) s := fun s => other36
      obtain ⟨ov, hov⟩ : ∃ ov, ov = other e n0 := ⟨_, rfl⟩
      rw [← hov] at c36
      have hovr : 0 ≤ ov ∧ ov ≤ 64 := by rw [hov]; unfold other; (repeat' split) <;> omega
      have hyo : ∀ y, e.has n0 y → y = ov := fun y hy => by rw [hov]; exact (has_other hem hy).symm
      have hinU : JP.In U ov := ⟨hovr.1, by rw [B.len]; omega⟩
      have gU := ints_at hinU




      by_cases hgo : 0 < ov ∧ JP.g U ov = 0
      · obtain ⟨hov0, hgz⟩ := hgo
        rw [hgz] at gU
        have hhas : e.has n0 ov := by rw [hov] at hov0 ⊢; exact other_has hov0
        have B2 := B.push (n := n0) (o := ov) (by simp) ⟨e, hel, hhas⟩ ⟨by omega, hovr.2⟩ hgz
        have hlen2 := pigeon 64 _ B2.ord B2.node
        simp only [List.length_append, List.length_cons] at hlen2
        (repeat' (first | (apply Ab.K.ev; exact ev_) | (apply Ab.K.aops; first | (apply Xg.s; constructor) | (apply Ab.S.guardU; (case hd => rfl); (case hb => (exact ev_; done))) | apply Ab.S.guardG) | (apply Ab.K.aop; first | (first | (first | (apply Ab.O.allocA (l := ec ⟨0, 0, 0⟩) M; (case hid => exact T.free (Nat.le_refl _)); (case hp => rfl)) | (apply Ab.O.storeAll; (case hz => rfl); (case hx => exact ev_); (case hy => exact ev_); (case hs => exact at_); (case hl => rfl); (case hc => rfl))) | (apply Ab.O.build1 (M + 1); (case hx => exact ev_); (case hv => exact ⟨rfl, rfl⟩); (case hz => exact ⟨rfl, rfl⟩); (case hid => exact free_))) | (apply Og.s; constructor)) | (apply Ab.K.gk; first | (apply Xg.s; constructor) | (apply Ab.gY; case hw => assumption) | (apply Ab.gNT; case hw => assumption) | (apply Ab.gNF; case hw => assumption) | ((first | apply Ab.gD | apply Ab.gDN); all_goals (intro _ _; (first | contradiction | (exfalso; omega) | skip)))) | (apply Ab.K.awp; first | (apply Xg.s; constructor)) | (apply Ab.K.at_; exact at_) | (apply Ab.K.acall; first | assumption | exact c36 _) | (apply Ab.Rg.mk; omega) | (apply Ab.Lt.mk; first | decide | (simp; done) | (simp; omega) | first | omega | (show (0 + 3 : Nat) < 3 + 1; decide) | (rw [ints_length, B.len]; omega)) | (apply Ab.Get.mk; first | rfl | first | exact gU | (rw [Nat.mul_one]; exact gU)) | (apply Ab.Nm.mk; first | first | exact ints_set _ _ _ | exact Eq.trans (congrArg (fun z => List.take _ (List.drop (z * 3) ds)) (Int.toNat_natCast i)) hE | exact (show ((ec e).drop 0).take 3 = ec e from rfl) | exact nrm_) | (apply Xg.s; constructor) | (apply Ab.asm; assumption) | rfl | infer_instance | decide))
        apply Ab.O.appendMove (M + 2) (es := 1) (n := t.length) (c := t.length) (m := 1) (off := off) (cs := cs) (xs := [.int .i64 ov]) (old := ints t)
        (case hx => exact ev_)
        (case hy => exact ev_)
        (case hs => exact srcAll At.hit rfl)
        (case ha => exact at_)
        (case hk => rfl)
        (case hm => decide)
        (case hr => omega)
        (case hl => rfl)
        (case hz => decide)
        (case hb => omega)
        (case hid => exact free_)
        (case ho => omega)
        (case hold => (rw [Nat.mul_one]; exact hct))
        (repeat' (first | (apply Ab.K.ev; exact ev_) | (apply Ab.K.aops; first | (apply Xg.s; constructor) | (apply Ab.S.guardU; (case hd => rfl); (case hb => (exact ev_; done))) | apply Ab.S.guardG) | (apply Ab.K.aop; first | (apply Og.s; constructor)) | (apply Ab.K.gk; first | (apply Xg.s; constructor) | (apply Ab.gY; case hw => assumption) | (apply Ab.gNT; case hw => assumption) | (apply Ab.gNF; case hw => assumption) | ((first | apply Ab.gD | apply Ab.gDN); all_goals (intro _ _; (first | contradiction | (exfalso; omega) | skip)))) | (apply Ab.K.awp; first | (apply Xg.s; constructor)) | (apply Ab.K.at_; exact at_) | (apply Ab.K.acall; first | assumption | exact c36 _) | (apply Ab.Rg.mk; omega) | (apply Ab.Lt.mk; first | decide | (simp; done) | (simp; omega) | first | omega | (show (0 + 3 : Nat) < 3 + 1; decide) | (rw [ints_length, B.len]; omega)) | (apply Ab.Get.mk; first | rfl | first | exact gU | (rw [Nat.mul_one]; exact gU)) | (apply Ab.Nm.mk; first | first | exact ints_set _ _ _ | exact Eq.trans (congrArg (fun z => List.take _ (List.drop (z * 3) ds)) (Int.toNat_natCast i)) hE | exact (show ((ec e).drop 0).take 3 = ec e from rfl) | exact nrm_) | (apply Xg.s; constructor) | (apply Ab.asm; assumption) | rfl | infer_instance | decide))
        have B3 : Bfs l root (U.set ov.toNat n0) cl (cl ++ n0 :: (t ++ [ov])) := by
          have := B2; rwa [List.append_assoc, List.cons_append] at this
        refine X.roundN (n - (i + 1)) (by omega) ⟨i + 1, M + 2, 0, M + 3, U.set ov.toNat n0, t ++ [ov], ints t ++ [.int .i64 ov], by exact ev_, by exact ev_, by rw [List.length_append]; exact ev_, by exact ev_, by exact ev_, by exact ev_, by exact ev_, by exact at_, At.hit, ?_, ?_, by omega, by omega, by exact fr_, by exact top_, B3, fun f hf y hy => ?_, by omega, rfl⟩
        · rw [List.length_append, List.length_append, ints_length]; simp
        · rw [List.drop_zero, ints_append]; exact List.take_of_length_le (by rw [List.length_append, List.length_append, ints_length]; simp)
        · rw [htk] at hf
          rcases List.mem_append.1 hf with hf | hf
          · have := hask f hf y hy
            rcases List.mem_append.1 this with h1 | h1
            · exact List.mem_append_left _ h1
            · refine List.mem_append_right _ ?_
              rcases List.mem_cons.1 h1 with h1 | h1
              · rw [h1]; exact List.mem_cons_self
              · exact List.mem_cons_of_mem _ (List.mem_append_left _ h1)
          · rw [List.mem_singleton.1 hf] at hy
            rw [hyo y hy]; simp
      · have hask2 : ∀ f ∈ l.take (i + 1), ∀ y, f.has n0 y → y ∈ cl ++ n0 :: t := fun f hf y hy => by
          rw [htk] at hf
          rcases List.mem_append.1 hf with hf | hf
          · exact hask f hf y hy
          · rw [List.mem_singleton.1 hf] at hy
            have hyv := hyo y hy
            have hy1 : 0 < y := by rcases hy with ⟨_, h2⟩ | ⟨h1, _⟩ <;> omega
            refine (B.mem y (by omega) (by omega)).1 fun hz => hgo ⟨by omega, by rw [← hyv]; exact hz⟩
        by_cases hov0 : 0 < ov
        · have hgz : JP.g U ov ≠ 0 := fun hz => hgo ⟨hov0, hz⟩
          (repeat' (first | (apply Ab.K.ev; exact ev_) | (apply Ab.K.aops; first | (apply Xg.s; constructor) | (apply Ab.S.guardU; (case hd => rfl); (case hb => (exact ev_; done))) | apply Ab.S.guardG) | (apply Ab.K.aop; first | (first | (apply Ab.O.allocA (l := ec ⟨0, 0, 0⟩) M; (case hid => exact T.free (Nat.le_refl _)); (case hp => rfl)) | (apply Ab.O.storeAll; (case hz => rfl); (case hx => exact ev_); (case hy => exact ev_); (case hs => exact at_); (case hl => rfl); (case hc => rfl))) | (apply Og.s; constructor)) | (apply Ab.K.gk; first | (apply Xg.s; constructor) | (apply Ab.gY; case hw => assumption) | (apply Ab.gNT; case hw => assumption) | (apply Ab.gNF; case hw => assumption) | ((first | apply Ab.gD | apply Ab.gDN); all_goals (intro _ _; (first | contradiction | (exfalso; omega) | skip)))) | (apply Ab.K.awp; first | (apply Xg.s; constructor)) | (apply Ab.K.at_; exact at_) | (apply Ab.K.acall; first | assumption | exact c36 _) | (apply Ab.Rg.mk; omega) | (apply Ab.Lt.mk; first | decide | (simp; done) | (simp; omega) | first | omega | (show (0 + 3 : Nat) < 3 + 1; decide) | (rw [ints_length, B.len]; omega)) | (apply Ab.Get.mk; first | rfl | first | exact gU | (rw [Nat.mul_one]; exact gU)) | (apply Ab.Nm.mk; first | first | exact ints_set _ _ _ | exact Eq.trans (congrArg (fun z => List.take _ (List.drop (z * 3) ds)) (Int.toNat_natCast i)) hE | exact (show ((ec e).drop 0).take 3 = ec e from rfl) | exact nrm_) | (apply Xg.s; constructor) | (apply Ab.asm; assumption) | rfl | infer_instance | decide))
          exact X.roundN (n - (i + 1)) (by omega) ⟨i + 1, q, off, M + 1, U, t, cs, by exact ev_, by exact ev_, by exact ev_, by exact ev_, by exact ev_, by exact ev_, by exact ev_, by exact at_, by exact at_, hcs, hct, huq, hq, by exact fr_, by exact top_, B, hask2, by omega, rfl⟩
        · (repeat' (first | (apply Ab.K.ev; exact ev_) | (apply Ab.K.aops; first | (apply Xg.s; constructor) | (apply Ab.S.guardU; (case hd => rfl); (case hb => (exact ev_; done))) | apply Ab.S.guardG) | (apply Ab.K.aop; first | (first | (apply Ab.O.allocA (l := ec ⟨0, 0, 0⟩) M; (case hid => exact T.free (Nat.le_refl _)); (case hp => rfl)) | (apply Ab.O.storeAll; (case hz => rfl); (case hx => exact ev_); (case hy => exact ev_); (case hs => exact at_); (case hl => rfl); (case hc => rfl))) | (apply Og.s; constructor)) | (apply Ab.K.gk; first | (apply Xg.s; constructor) | (apply Ab.gY; case hw => assumption) | (apply Ab.gNT; case hw => assumption) | (apply Ab.gNF; case hw => assumption) | ((first | apply Ab.gD | apply Ab.gDN); all_goals (intro _ _; (first | contradiction | (exfalso; omega) | skip)))) | (apply Ab.K.awp; first | (apply Xg.s; constructor)) | (apply Ab.K.at_; exact at_) | (apply Ab.K.acall; first | assumption | exact c36 _) | (apply Ab.Rg.mk; omega) | (apply Ab.Lt.mk; first | decide | (simp; done) | (simp; omega) | first | omega | (show (0 + 3 : Nat) < 3 + 1; decide) | (rw [ints_length, B.len]; omega)) | (apply Ab.Get.mk; first | rfl | first | exact gU | (rw [Nat.mul_one]; exact gU)) | (apply Ab.Nm.mk; first | first | exact ints_set _ _ _ | exact Eq.trans (congrArg (fun z => List.take _ (List.drop (z * 3) ds)) (Int.toNat_natCast i)) hE | exact (show ((ec e).drop 0).take 3 = ec e from rfl) | exact nrm_) | (apply Xg.s; constructor) | (apply Ab.asm; assumption) | rfl | infer_instance | decide))
          exact X.roundN (n - (i + 1)) (by omega) ⟨i + 1, q, off, M + 1, U, t, cs, by exact ev_, by exact ev_, by exact ev_, by exact ev_, by exact ev_, by exact ev_, by exact ev_, by exact at_, by exact at_, hcs, hct, huq, hq, by exact fr_, by exact top_, B, hask2, by omega, rfl⟩
    · obtain rfl : i = n := by omega
      rw [hnl, List.take_length] at hask
      have B2 : Bfs l root U (cl ++ [n0]) ((cl ++ [n0]) ++ t) := by
        have := B.close (n := n0) (fun y ⟨e, he, hy⟩ => hask e he y hy)
        rwa [List.append_assoc, List.singleton_append]
      (repeat' (first | (apply Ab.K.ev; exact ev_) | (apply Ab.K.aops; first | (apply Xg.s; constructor) | (apply Ab.S.guardU; (case hd => rfl); (case hb => (exact ev_; done))) | apply Ab.S.guardG) | (apply Ab.K.aop; first | (apply Og.s; constructor)) | (apply Ab.K.gk; first | (apply Xg.s; constructor) | (apply Ab.gY; case hw => assumption) | (apply Ab.gNT; case hw => assumption) | (apply Ab.gNF; case hw => assumption) | ((first | apply Ab.gD | apply Ab.gDN); all_goals (intro _ _; (first | contradiction | (exfalso; omega) | skip)))) | (apply Ab.K.awp; first | (apply Xg.s; constructor)) | (apply Ab.K.at_; exact at_) | (apply Ab.K.acall; first | assumption | exact c36 _) | (apply Ab.Rg.mk; omega) | (apply Ab.Lt.mk; first | decide | (simp; done) | (simp; omega) | first | omega | (show (0 + 3 : Nat) < 3 + 1; decide) | (rw [ints_length, B.len]; omega)) | (apply Ab.Get.mk; first | rfl | first | exact gU | (rw [Nat.mul_one]; exact gU)) | (apply Ab.Nm.mk; first | first | exact ints_set _ _ _ | exact Eq.trans (congrArg (fun z => List.take _ (List.drop (z * 3) ds)) (Int.toNat_natCast i)) hE | exact (show ((ec e).drop 0).take 3 = ec e from rfl) | exact nrm_) | (apply Xg.s; constructor) | (apply Ab.asm; assumption) | rfl | infer_instance | decide))
      exact X.roundN (64 - (cl ++ [n0]).length) (by rw [List.length_append]; simp; omega) ⟨u, q, off, M, U, cl ++ [n0], t, cs, by exact ev_, by exact ev_, by exact ev_, a5, a6, hcs, hct, huq, hu, hq, F, T, B2, rfl⟩
end Go.Proofs.Ytdbnpghckgmaoaa

/- views: the edges that both ends have marked, by the program and by the document. -/
namespace Go.Proofs.Ytdbnpghckgmaoaa
set_option linter.unusedVariables false
set_option linter.unusedSimpArgs false
set_option linter.unusedSectionVars false
open Go.RowKit Ab TP VP
def bpre (l : List Kn) : List E := (l.filter fun k => k.md).map edg
theorem bpre_snoc {l : List Kn} {x : Kn} : bpre (l ++ [x]) = bpre l ++ if x.md = true then [edg x] else [] := by
  unfold bpre
  rw [List.filter_append, List.map_append]
  cases h : x.md <;> simp [h]
theorem bpre_len {l : List Kn} : (bpre l).length ≤ l.length := by unfold bpre; rw [List.length_map]; exact List.length_filter_le _ _
theorem EA.newL {s s' : AHeap} {v : Value} {k : Nat} {l : List E} (h : NewL s 3 v k (ecs l) s') (hk : k = l.length) : ∃ on, EA s' v on l := by
  subst hk
  rcases h with ⟨hk, _, rfl, rfl⟩ | ⟨u, _, rfl, _, rfl⟩
  · obtain rfl := List.length_eq_zero_iff.1 hk
    exact ⟨none, .nil⟩
  · exact ⟨some u, EA.own At.hit⟩
theorem ec_plR {e : E} : plR (.agg (ec e).toArray) = true := rfl
attribute [local irreducible] AOps AOpsD AOp AWp put nargs AHeap.set At Free ACall ACallE thenQ blockQ roundQ RetQ RetE Src Gr

theorem bound_err {s : AHeap} {A B : Option Addr} {n c m d : Nat} {on ol : Option Nat} {nodes : List Int} {L : List Kn} (hN : NA s (.slice A n c) on nodes) (hL : KA s (.slice B m d) ol L) (hn : n ≤ 100000) (hm : m ≤ 100000) (hno : mvB nodes L = false) :
    ACall Try.prog 31 [.agg #[.slice A n c, .slice B m d]] s (.tuple #[.slice none 0 0, .int .i64 1]) s := by
  refine ACall.make Try.func31 rfl (by kernel_rfl) (by decide) rfl (fun N hN0 => ?_)
  have hT : Top N s := hN0
  have F1 : Fr (s.set N (.cells true 1 [.slice A n c, .slice B m d])) s [] := Fr.new (hT.free (Nat.le_refl _)) (Fr.refl _ _)
  have c43 := inner_err (hN.fr F1) (hL.fr F1) hn hm hno


  (repeat' (first | (apply Ab.K.ev; exact ev_) | (apply Ab.K.aops; first | (apply Xg.s; constructor) | (apply Ab.S.guardU; (case hd => rfl); (case hb => (exact ev_; done))) | apply Ab.S.guardG) | (apply Ab.K.aop; first | (apply Ab.O.boxA (l := [.slice A n c, .slice B m d]) N; (case hx => exact ev_); (case hid => exact hT.free (Nat.le_refl _))) | (apply Og.s; constructor)) | (apply Ab.K.gk; first | (apply Xg.s; constructor) | (apply Ab.gY; case hw => assumption) | (apply Ab.gNT; case hw => assumption) | (apply Ab.gNF; case hw => assumption) | ((first | apply Ab.gD | apply Ab.gDN); all_goals (intro _ _; (first | contradiction | (exfalso; omega) | skip)))) | (apply Ab.K.awp; first | (apply Xg.s; constructor)) | (apply Ab.K.at_; exact at_) | (apply Ab.K.acall; first | assumption | exact c43) | (apply Ab.Rg.mk; omega) | (apply Ab.Lt.mk; first | decide | (simp; done) | (simp; omega) | fail) | (apply Ab.Get.mk; first | rfl | fail) | (apply Ab.Nm.mk; first | exact (show (([.slice A n c, .slice B m d] : List Value).drop 0).take 2 = [.slice A n c, .slice B m d] from rfl) | exact nrm_) | (apply Xg.s; constructor) | (apply Ab.asm; assumption) | rfl | infer_instance | decide))
  refine AWp.loop (fun kk tm s1 => Ev tm (.tmp 5) (.int .i64 1) ∧ Ev tm (.tmp 6) (.slice none 0 0) ∧ Ev tm (.tmp 15) (.int .i64 (0 : Nat)) ∧ Ev tm (.tmp 16) (.int .i64 0) ∧ Fr s1 s []) 0 ?_ ?_
  · exact ⟨by exact ev_, by exact ev_, by exact ev_, by exact ev_, F1⟩
  rintro kk tm s1 ⟨e5, e6, e15, e16, F⟩

  (repeat' (first | (apply Ab.K.ev; exact ev_) | (apply Ab.K.aops; first | (apply Xg.s; constructor) | (apply Ab.S.guardU; (case hd => rfl); (case hb => (exact ev_; done))) | apply Ab.S.guardG) | (apply Ab.K.aop; first | (apply Og.s; constructor)) | (apply Ab.K.gk; first | (apply Xg.s; constructor) | (apply Ab.gY; case hw => assumption) | (apply Ab.gNT; case hw => assumption) | (apply Ab.gNF; case hw => assumption) | ((first | apply Ab.gD | apply Ab.gDN); all_goals (intro _ _; (first | contradiction | (exfalso; omega) | skip)))) | (apply Ab.K.awp; first | (apply Xg.s; constructor)) | (apply Ab.K.at_; exact at_) | (apply Ab.K.acall; first | assumption | fail) | (apply Ab.Rg.mk; omega) | (apply Ab.Lt.mk; first | decide | (simp; done) | (simp; omega) | fail) | (apply Ab.Get.mk; first | rfl | fail) | (apply Ab.Nm.mk; first | exact (show (([.slice A n c, .slice B m d] : List Value).drop 0).take 2 = [.slice A n c, .slice B m d] from rfl) | exact nrm_) | (apply Xg.s; constructor) | (apply Ab.asm; assumption) | rfl | infer_instance | decide))
  all_goals ((first | apply RetQ.ret | apply RetQ.normal); (case he => exact evr_); (case hg => rfl))
  all_goals first | rfl | exact Keeps.fr F (plR.nm rfl)
set_option maxHeartbeats 8000000 in
theorem boundV {s : AHeap} {A B : Option Addr} {n c m d : Nat} {on ol : Option Nat} {nodes : List Int} {L : List Kn} (hN : NA s (.slice A n c) on nodes) (hL : KA s (.slice B m d) ol L) (hn : n ≤ 100000) (hm : m ≤ 100000) (hv : MayV nodes L) :
    ACallE Try.prog 31 [.agg #[.slice A n c, .slice B m d]] s (fun v s' => ∃ w, v = .tuple #[w, .int .i64 0] ∧ NewL s 3 w (bnd L).length (ecs (bnd L)) s') := by
  have hml : m = L.length := by obtain ⟨_, _, e⟩ := hL.isl; injection e
  have hil := inn_len hv.2
  refine ACallE.make Try.func31 rfl (by kernel_rfl) (by decide) rfl (fun N hN0 => ?_)
  have hT : Top N s := hN0
  have F1 : Fr (s.set N (.cells true 1 [.slice A n c, .slice B m d])) s [] := Fr.new (hT.free (Nat.le_refl _)) (Fr.refl _ _)
  have c43 := innerV (hN.fr F1) (hL.fr F1) hn hm hv

  (repeat' (first | (apply Ab.K.ev; exact ev_) | (apply Ab.K.aops; first | (apply Xg.s; constructor) | (apply Ab.S.guardU; (case hd => rfl); (case hb => (exact ev_; done))) | apply Ab.S.guardG) | (apply Ab.K.aop; first | (first | (apply Ab.O.boxA (l := [.slice A n c, .slice B m d]) N; (case hx => exact ev_); (case hid => exact hT.free (Nat.le_refl _))) | (apply Ab.O.callFE; (case ha => exact evs_); (case hc => exact c43))) | (apply Og.s; constructor)) | (apply Ab.K.gk; first | (apply Xg.s; constructor) | (apply Ab.gY; case hw => assumption) | (apply Ab.gNT; case hw => assumption) | (apply Ab.gNF; case hw => assumption) | ((first | apply Ab.gD | apply Ab.gDN); all_goals (intro _ _; (first | contradiction | (exfalso; omega) | skip)))) | (apply Ab.K.awp; first | (apply Xg.s; constructor)) | (apply Ab.K.at_; exact at_) | (apply Ab.K.acall; first | assumption | fail) | (apply Ab.Rg.mk; omega) | (apply Ab.Lt.mk; first | decide | (simp; done) | (simp; omega) | fail) | (apply Ab.Get.mk; first | rfl | fail) | (apply Ab.Nm.mk; first | exact (show (([.slice A n c, .slice B m d] : List Value).drop 0).take 2 = [.slice A n c, .slice B m d] from rfl) | exact nrm_) | (apply Xg.s; constructor) | (apply Ab.asm; assumption) | rfl | infer_instance | decide))
  rintro v2 s2 ⟨w, rfl, hw⟩
  clear c43
  obtain ⟨M0, hM0, T0⟩ := hw.top (hT.new (b := .cells true 1 [.slice A n c, .slice B m d]))
  obtain ⟨oi, hI⟩ := KA.newL hw rfl
  have F2 : Fr s2 s [] := fun i hi c hc => hw.fr i hi c (F1 i hi c hc)
  obtain ⟨C, ci, rfl⟩ := hI.isl
  (repeat' (first | (apply Ab.K.ev; exact ev_) | (apply Ab.K.aops; first | (apply Xg.s; constructor) | (apply Ab.S.guardU; (case hd => rfl); (case hb => (exact ev_; done))) | apply Ab.S.guardG) | (apply Ab.K.aop; first | (apply Og.s; constructor)) | (apply Ab.K.gk; first | (apply Xg.s; constructor) | (apply Ab.gY; case hw => assumption) | (apply Ab.gNT; case hw => assumption) | (apply Ab.gNF; case hw => assumption) | ((first | apply Ab.gD | apply Ab.gDN); all_goals (intro _ _; (first | contradiction | (exfalso; omega) | skip)))) | (apply Ab.K.awp; first | (apply Xg.s; constructor)) | (apply Ab.K.at_; exact at_) | (apply Ab.K.acall; first | assumption | fail) | (apply Ab.Rg.mk; omega) | (apply Ab.Lt.mk; first | decide | (simp; done) | (simp; omega) | fail) | (apply Ab.Get.mk; first | rfl | fail) | (apply Ab.Nm.mk; first | exact (show (([.slice A n c, .slice B m d] : List Value).drop 0).take 2 = [.slice A n c, .slice B m d] from rfl) | exact nrm_) | (apply Xg.s; constructor) | (apply Ab.asm; assumption) | rfl | infer_instance | decide))
  refine AWp.loop (fun kk tm s1 => ∃ (i k M : Nat) (v : Value) (ov : Option Nat) (r : List E), Ev tm (.tmp 5) (.int .i64 0) ∧ Ev tm (.tmp 6) v ∧ Ev tm (.tmp 14) (.slice C (inn L).length ci) ∧ Ev tm (.tmp 15) (.int .i64 (inn L).length) ∧ Ev tm (.tmp 16) (.int .i64 i) ∧ KA s1 (.slice C (inn L).length ci) oi (inn L) ∧ (∀ q, oi = some q → q < M0) ∧ Gr s1 3 M0 v ov k (ecs r) ∧ k = r.length ∧ r = bpre ((inn L).take i) ∧ Fr s1 s [] ∧ Top M s1 ∧ M0 ≤ M ∧ i ≤ (inn L).length ∧ kk = (inn L).length - i) (inn L).length ?_ ?_
  · exact ⟨0, 0, M0, _, _, [], by exact ev_, by exact ev_, by exact ev_, by exact ev_, by exact ev_, hI, hI.lt T0, Gr.nil, rfl, rfl, F2, T0, Nat.le_refl _, by omega, rfl⟩
  clear hI F2 hw T0
  rintro kk tm s1 ⟨i, k, M, v, ov, r, e5, e6, e14, e15, e16, hI, hIM, G, hk, hr, F, T, hMM, hi, hkk⟩
  have hlt := G.lt T
  have hge := G.from_
  by_cases hin : i < (inn L).length
  · obtain ⟨x, hx⟩ : ∃ x, (inn L)[i]? = some x := ⟨_, List.getElem?_eq_getElem hin⟩
    have htk : (inn L).take (i + 1) = (inn L).take i ++ [x] := by rw [List.take_add_one, hx]; rfl
    have hxne : x.node ≠ x.peer := by
      obtain ⟨k1, _, r1, _, hm1⟩ := inn_mem.1 (List.mem_of_getElem? hx)
      obtain ⟨⟨h1, _⟩, rfl⟩ := mt_some.1 hm1
      show k1.node ≠ k1.peer; omega
    have hrl : k ≤ 100000 := by rw [hk, hr]; exact Nat.le_trans bpre_len (by rw [List.length_take]; omega)
    obtain ⟨q, rw1, cs, rfl, hqo, _, hq, hcs, hE, _⟩ := hI.elt hx
    have hqM0 := hIM q hqo
    obtain ⟨s3, hs3⟩ : ∃ s3, s3 = (s1.set M (.cells true 1 (kc ⟨0, 0, 0, 0, false⟩))).set M (.cells true 1 (kc x)) := ⟨_, rfl⟩
    have F3 : Fr s3 s [] := by rw [hs3, AHeap.set_set]; exact Fr.new (hT.free (by omega)) F
    have T3 : Top (M + 1) s3 := by rw [hs3, AHeap.set_set]; exact T.new
    have aM : At s3 M (.cells true 1 (kc x)) := by rw [hs3]; exact At.hit
    have hI3 : KA s3 (.slice (some ⟨q, 0, none⟩) (inn L).length ci) oi (inn L) := hI.of_at fun o ho => by
      have := hIM o ho
      rw [hs3, AHeap.set_other _ _ (by omega), AHeap.set_other _ _ (by omega)]
    have G3 : Gr s3 3 M0 v ov k (ecs r) := by rw [hs3]; exact (G.set (fun q e => by have := hlt q e; omega)).set (fun q e => by have := hlt q e; omega)
    have c44 : ∀ s : AHeap, ACall Try.prog 44 [.agg (kc x).toArray] s (.agg (ec (edg x)).toArray) s := fun s => edgeV hxne



    cases hmd : x.md
    · have hr1 : r = bpre ((inn L).take (i + 1)) := by rw [htk, bpre_snoc, hmd, ← hr]; simp
      (repeat' (first | (apply Ab.K.ev; exact ev_) | (apply Ab.K.aops; first | (apply Xg.s; constructor) | (apply Ab.S.guardU; (case hd => rfl); (case hb => (exact ev_; done))) | apply Ab.S.guardG) | (apply Ab.K.aop; first | (first | (apply Ab.O.allocA (l := kc ⟨0, 0, 0, 0, false⟩) M; (case hid => exact T.free (Nat.le_refl _)); (case hp => rfl)) | (apply Ab.O.storeAll; (case hz => rfl); (case hx => exact ev_); (case hy => exact ev_); (case hs => exact at_); (case hl => rfl); (case hc => rfl)) | (apply Ab.O.build1A (M + 1); (case hx => exact ev_); (case hl => rfl); (case hz => exact ⟨rfl, rfl⟩); (case hes => decide); (case hid => exact free_))) | (apply Og.s; constructor)) | (apply Ab.K.gk; first | (apply Xg.s; constructor) | (apply Ab.gY; case hw => assumption) | (apply Ab.gNT; case hw => assumption) | (apply Ab.gNF; case hw => assumption) | ((first | apply Ab.gD | apply Ab.gDN); all_goals (intro _ _; (first | contradiction | (exfalso; omega) | skip)))) | (apply Ab.K.awp; first | (apply Xg.s; constructor)) | (apply Ab.K.at_; exact at_) | (apply Ab.K.acall; first | assumption | exact c44 _) | (apply Ab.Rg.mk; omega) | (apply Ab.Lt.mk; first | decide | (simp; done) | (simp; omega) | first | omega | (show (0 + 5 : Nat) < 5 + 1; decide)) | (apply Ab.Get.mk; first | rfl | fail) | (apply Ab.Nm.mk; first | first | exact Eq.trans (congrArg (fun z => List.take _ (List.drop (z * 5) cs)) (Int.toNat_natCast i)) hE | exact (show ((kc x).drop 0).take 5 = kc x from rfl) | exact nrm_) | (apply Xg.s; constructor) | (apply Ab.asm; assumption) | rfl | infer_instance | decide))
      rw [← hs3]
      exact X.roundN ((inn L).length - (i + 1)) (by omega) ⟨i + 1, k, M + 1, v, ov, r, by exact ev_, by exact ev_, by exact ev_, by exact ev_, by exact ev_, hI3, hIM, G3, hk, hr1, F3, T3, by omega, by omega, rfl⟩
    · have hr1 : r ++ [edg x] = bpre ((inn L).take (i + 1)) := by rw [htk, bpre_snoc, hmd, ← hr]; simp
      (repeat' (first | (apply Ab.K.ev; exact ev_) | (apply Ab.K.aops; first | (apply Xg.s; constructor) | (apply Ab.S.guardU; (case hd => rfl); (case hb => (exact ev_; done))) | apply Ab.S.guardG) | (apply Ab.K.aop; first | (first | (apply Ab.O.allocA (l := kc ⟨0, 0, 0, 0, false⟩) M; (case hid => exact T.free (Nat.le_refl _)); (case hp => rfl)) | (apply Ab.O.storeAll; (case hz => rfl); (case hx => exact ev_); (case hy => exact ev_); (case hs => exact at_); (case hl => rfl); (case hc => rfl)) | (apply Ab.O.build1A (M + 1); (case hx => exact ev_); (case hl => rfl); (case hz => exact ⟨rfl, rfl⟩); (case hes => decide); (case hid => exact free_))) | (apply Og.s; constructor)) | (apply Ab.K.gk; first | (apply Xg.s; constructor) | (apply Ab.gY; case hw => assumption) | (apply Ab.gNT; case hw => assumption) | (apply Ab.gNF; case hw => assumption) | ((first | apply Ab.gD | apply Ab.gDN); all_goals (intro _ _; (first | contradiction | (exfalso; omega) | skip)))) | (apply Ab.K.awp; first | (apply Xg.s; constructor)) | (apply Ab.K.at_; exact at_) | (apply Ab.K.acall; first | assumption | exact c44 _) | (apply Ab.Rg.mk; omega) | (apply Ab.Lt.mk; first | decide | (simp; done) | (simp; omega) | first | omega | (show (0 + 5 : Nat) < 5 + 1; decide)) | (apply Ab.Get.mk; first | rfl | fail) | (apply Ab.Nm.mk; first | first | exact Eq.trans (congrArg (fun z => List.take _ (List.drop (z * 5) cs)) (Int.toNat_natCast i)) hE | exact (show ((kc x).drop 0).take 5 = kc x from rfl) | exact nrm_) | (apply Xg.s; constructor) | (apply Ab.asm; assumption) | rfl | infer_instance | decide))
      rw [← hs3]
      have G4 := G3.set (id := M + 1) (b := .cells true 3 (ec (edg x))) (fun q e => by have := hlt q e; omega)
      clear G G3
      (apply Ab.O.appendL (M + 2); (case hx => exact ev_); (case hL => exact Ab.Gr.lat (by assumption)); (case hy => exact ev_); (case hs => exact srcAll At.hit rfl); (case hk => rfl); (case hm => decide); (case hl => first | rfl | simp); (case hz => decide); (case hb => omega); (case hfree => exact free_))
      intro s4 g
      have T5 := G4.topN g T3.new
      have F5 := G4.frN g (Fr.new (hT.free (by omega)) F3) (hT.mono (by omega))
      have hI5 : KA s4 (.slice (some ⟨q, 0, none⟩) (inn L).length ci) oi (inn L) := hI3.of_at fun o ho => by
        have := hIM o ho
        rw [g.off o (fun e => by have := hge o e; omega) (by omega), AHeap.set_other _ _ (by omega)]
      rw [show ecs r ++ ec (edg x) = ecs (r ++ [edg x]) from by rw [ecs_append]; simp [ecs]] at g
      have G5 : Gr s4 3 M0 _ _ (k + 1) _ := Gr.app g (by rw [ecs_length, List.length_append, hk]; rfl) (by omega)
      (repeat' (first | (apply Ab.K.ev; exact ev_) | (apply Ab.K.aops; first | (apply Xg.s; constructor) | (apply Ab.S.guardU; (case hd => rfl); (case hb => (exact ev_; done))) | apply Ab.S.guardG) | (apply Ab.K.aop; first | (apply Og.s; constructor)) | (apply Ab.K.gk; first | (apply Xg.s; constructor) | (apply Ab.gY; case hw => assumption) | (apply Ab.gNT; case hw => assumption) | (apply Ab.gNF; case hw => assumption) | ((first | apply Ab.gD | apply Ab.gDN); all_goals (intro _ _; (first | contradiction | (exfalso; omega) | skip)))) | (apply Ab.K.awp; first | (apply Xg.s; constructor)) | (apply Ab.K.at_; exact at_) | (apply Ab.K.acall; first | assumption | exact c44 _) | (apply Ab.Rg.mk; omega) | (apply Ab.Lt.mk; first | decide | (simp; done) | (simp; omega) | first | omega | (show (0 + 5 : Nat) < 5 + 1; decide)) | (apply Ab.Get.mk; first | rfl | fail) | (apply Ab.Nm.mk; first | first | exact Eq.trans (congrArg (fun z => List.take _ (List.drop (z * 5) cs)) (Int.toNat_natCast i)) hE | exact (show ((kc x).drop 0).take 5 = kc x from rfl) | exact nrm_) | (apply Xg.s; constructor) | (apply Ab.asm; assumption) | rfl | infer_instance | decide))
      exact X.roundN ((inn L).length - (i + 1)) (by omega) ⟨i + 1, k + 1, M + 3, _, _, r ++ [edg x], by exact ev_, by exact ev_, by exact ev_, by exact ev_, by exact ev_, hI5, hIM, G5, by rw [List.length_append, hk]; rfl, hr1, F5, T5, by omega, by omega, rfl⟩
  · have hie : i = (inn L).length := by omega
    have hr2 : r = bnd L := by rw [hr, hie, List.take_length]; rfl
    obtain ⟨s', hs', _, hkeep⟩ := G.newL F (hT.mono (by omega)) (ecs_pl _)
    have hq : ∃ w, Value.tuple #[v, .int .i64 0] = .tuple #[w, .int .i64 0] ∧ NewL s 3 w (bnd L).length (ecs (bnd L)) s' := ⟨v, rfl, by rw [← hr2, ← hk]; exact hs'⟩
    have hk0 := hkeep .i64 0
    rcases hs'.val with rfl | ⟨u, rfl⟩
    all_goals
      (repeat' (first | (apply Ab.K.ev; exact ev_) | (apply Ab.K.aops; first | (apply Xg.s; constructor) | (apply Ab.S.guardU; (case hd => rfl); (case hb => (exact ev_; done))) | apply Ab.S.guardG) | (apply Ab.K.aop; first | (apply Og.s; constructor)) | (apply Ab.K.gk; first | (apply Xg.s; constructor) | (apply Ab.gY; case hw => assumption) | (apply Ab.gNT; case hw => assumption) | (apply Ab.gNF; case hw => assumption) | ((first | apply Ab.gD | apply Ab.gDN); all_goals (intro _ _; (first | contradiction | (exfalso; omega) | skip)))) | (apply Ab.K.awp; first | (apply Xg.s; constructor)) | (apply Ab.K.at_; exact at_) | (apply Ab.K.acall; first | assumption | exact c44 _) | (apply Ab.Rg.mk; omega) | (apply Ab.Lt.mk; first | decide | (simp; done) | (simp; omega) | first | omega | (show (0 + 5 : Nat) < 5 + 1; decide)) | (apply Ab.Get.mk; first | rfl | fail) | (apply Ab.Nm.mk; first | first | exact Eq.trans (congrArg (fun z => List.take _ (List.drop (z * 5) cs)) (Int.toNat_natCast i)) hE | exact (show ((kc x).drop 0).take 5 = kc x from rfl) | exact nrm_) | (apply Xg.s; constructor) | (apply Ab.asm; assumption) | rfl | infer_instance | decide))
      all_goals ((first | apply RetE.ret | apply RetE.normal); (case he => exact evr_); (case hg => rfl))
      · exact hq
      · exact hk0

set_option maxHeartbeats 8000000 in
theorem bound09 {s : AHeap} {A B : Option Addr} {n c m d : Nat} {ol : Option Nat} {nodes : List Int} {L : List Kn} {o : Nat} (hL : KA s (.slice B m d) ol L) (hm : m ≤ 100000) (hLO : LOk nodes L) (ho : s o = none) :
    ACall Try.prog 15 [.agg #[.slice A n c, .slice B m d]] s (.slice (some ⟨o, 0, none⟩) (bnd L).length (bnd L).length) (s.set o (.cells true 3 (ecs (bnd L)))) := by
  have hml : m = L.length := by obtain ⟨_, _, e⟩ := hL.isl; injection e
  have hil := inn_len hLO
  refine ACall.make Try.func15 rfl (by kernel_rfl) (by decide) rfl (fun N hN0 => ?_)
  have hT : Top N s := hN0
  have F1 : Fr (s.set N (.cells true 1 [.slice A n c, .slice B m d])) s [] := Fr.new (hT.free (Nat.le_refl _)) (Fr.refl _ _)
  have c28 := inner09 (A := A) (n := n) (c := c) (o := N + 1) (hL.fr F1) hm hLO (hT.new.none (Nat.le_refl _))


  (repeat' (first | (apply Ab.K.ev; exact ev_) | (apply Ab.K.aops; first | (apply Xg.s; constructor) | (apply Ab.S.guardU; (case hd => rfl); (case hb => (exact ev_; done))) | apply Ab.S.guardG) | (apply Ab.K.aop; first | (first | (apply Ab.O.boxA (l := [.slice A n c, .slice B m d]) N; (case hx => exact ev_); (case hid => exact hT.free (Nat.le_refl _))) | (apply Ab.O.build0 (N + 2) (te := ⟨.struct [(0, 3), (1, 3), (2, 3)], 3, 24, .agg #[.int .i64 0, .int .i64 0, .int .i64 0]⟩); (case hz => exact ⟨rfl, rfl⟩); (case hid => exact frees_))) | (apply Og.s; constructor)) | (apply Ab.K.gk; first | (apply Xg.s; constructor) | (apply Ab.gY; case hw => assumption) | (apply Ab.gNT; case hw => assumption) | (apply Ab.gNF; case hw => assumption) | ((first | apply Ab.gD | apply Ab.gDN); all_goals (intro _ _; (first | contradiction | (exfalso; omega) | skip)))) | (apply Ab.K.awp; first | (apply Xg.s; constructor)) | (apply Ab.K.at_; exact at_) | (apply Ab.K.acall; first | assumption | exact c28) | (apply Ab.Rg.mk; omega) | (apply Ab.Lt.mk; first | decide | (simp; done) | (simp; omega) | first | omega | (show (0 + 5 : Nat) < 5 + 1; decide)) | (apply Ab.Get.mk; first | rfl | fail) | (apply Ab.Nm.mk; first | exact (show (([.slice A n c, .slice B m d] : List Value).drop 0).take 2 = [.slice A n c, .slice B m d] from rfl) | exact nrm_) | (apply Xg.s; constructor) | (apply Ab.asm; assumption) | rfl | infer_instance | decide))

  clear c28
  refine AWp.loop (fun kk tm s1 => ∃ (i k M : Nat) (v : Value) (ov : Option Nat) (r : List E), Ev tm (.tmp 3) (.slice (some ⟨N + 1, 0, none⟩) (inn L).length (inn L).length) ∧ Ev tm (.tmp 4) v ∧ Ev tm (.tmp 5) (.int .i64 i) ∧ At s1 (N + 1) (.cells true 5 (kcs (inn L))) ∧ Gr s1 3 (N + 2) v ov k (ecs r) ∧ ov.isSome = true ∧ k = r.length ∧ r = bpre ((inn L).take i) ∧ Fr s1 s [] ∧ Top M s1 ∧ N + 2 ≤ M ∧ i ≤ (inn L).length ∧ kk = (inn L).length - i) (inn L).length ?_ ?_
  · exact ⟨0, 0, N + 3, _, _, [], by exact ev_, by exact ev_, by exact ev_, by exact at_, Gr.new (q := N + 2) At.hit rfl (Nat.le_refl _), rfl, rfl, rfl, by exact fr_, by exact top_, by omega, by omega, rfl⟩
  clear F1
  rintro kk tm s1 ⟨i, k, M, v, ov, r, e3, e4, e5, aI, G, hov, hk, hr, F, T, hMM, hi, hkk⟩
  have hlt := G.lt T
  have hge := G.from_
  by_cases hin : i < (inn L).length
  · obtain ⟨x, hx⟩ : ∃ x, (inn L)[i]? = some x := ⟨_, List.getElem?_eq_getElem hin⟩
    have htk : (inn L).take (i + 1) = (inn L).take i ++ [x] := by rw [List.take_add_one, hx]; rfl
    have hrl : k ≤ 100000 := by rw [hk, hr]; exact Nat.le_trans bpre_len (by rw [List.length_take]; omega)
    have hE := kcs_get hx
    have hcl := kcs_length (inn L)
    have g4 : (kcs (inn L))[i * 5 + 4]? = some (.bool x.md) := kcs_cell hx 4 (by omega)
    have c29 : ∀ s : AHeap, ACall Try.prog 29 [.agg (kc x).toArray] s (.agg (ec (edg x)).toArray) s := fun s => edge09




    cases hmd : x.md
    · have hr1 : r = bpre ((inn L).take (i + 1)) := by rw [htk, bpre_snoc, hmd, ← hr]; simp
      (repeat' (first | (apply Ab.K.ev; exact ev_) | (apply Ab.K.aops; first | (apply Xg.s; constructor) | (apply Ab.S.guardU; (case hd => rfl); (case hb => (exact ev_; done))) | apply Ab.S.guardG) | (apply Ab.K.aop; first | (apply Ab.O.build1A M; (case hx => exact ev_); (case hl => rfl); (case hz => exact ⟨rfl, rfl⟩); (case hes => decide); (case hid => exact T.free (Nat.le_refl _))) | (apply Og.s; constructor)) | (apply Ab.K.gk; first | (apply Xg.s; constructor) | (apply Ab.gY; case hw => assumption) | (apply Ab.gNT; case hw => assumption) | (apply Ab.gNF; case hw => assumption) | ((first | apply Ab.gD | apply Ab.gDN); all_goals (intro _ _; (first | contradiction | (exfalso; omega) | skip)))) | (apply Ab.K.awp; first | (apply Xg.s; constructor)) | (apply Ab.K.at_; exact at_) | (apply Ab.K.acall; first | assumption | exact c29 _) | (apply Ab.Rg.mk; omega) | (apply Ab.Lt.mk; first | decide | (simp; done) | (simp; omega) | (rw [kcs_length]; omega)) | (apply Ab.Get.mk; first | rfl | (rw [Int.toNat_natCast]; exact g4)) | (apply Ab.Nm.mk; first | exact Eq.trans (congrArg (fun z => List.take _ (List.drop (z * 5) (kcs (inn L)))) (Int.toNat_natCast i)) hE | exact nrm_) | (apply Xg.s; constructor) | (apply Ab.asm; assumption) | rfl | infer_instance | decide))
      exact X.roundN ((inn L).length - (i + 1)) (by omega) ⟨i + 1, k, M, v, ov, r, by exact ev_, by exact ev_, by exact ev_, aI, G, hov, hk, hr1, F, T, by omega, by omega, rfl⟩
    · have hr1 : r ++ [edg x] = bpre ((inn L).take (i + 1)) := by rw [htk, bpre_snoc, hmd, ← hr]; simp
      (repeat' (first | (apply Ab.K.ev; exact ev_) | (apply Ab.K.aops; first | (apply Xg.s; constructor) | (apply Ab.S.guardU; (case hd => rfl); (case hb => (exact ev_; done))) | apply Ab.S.guardG) | (apply Ab.K.aop; first | (apply Ab.O.build1A M; (case hx => exact ev_); (case hl => rfl); (case hz => exact ⟨rfl, rfl⟩); (case hes => decide); (case hid => exact T.free (Nat.le_refl _))) | (apply Og.s; constructor)) | (apply Ab.K.gk; first | (apply Xg.s; constructor) | (apply Ab.gY; case hw => assumption) | (apply Ab.gNT; case hw => assumption) | (apply Ab.gNF; case hw => assumption) | ((first | apply Ab.gD | apply Ab.gDN); all_goals (intro _ _; (first | contradiction | (exfalso; omega) | skip)))) | (apply Ab.K.awp; first | (apply Xg.s; constructor)) | (apply Ab.K.at_; exact at_) | (apply Ab.K.acall; first | assumption | exact c29 _) | (apply Ab.Rg.mk; omega) | (apply Ab.Lt.mk; first | decide | (simp; done) | (simp; omega) | (rw [kcs_length]; omega)) | (apply Ab.Get.mk; first | rfl | (rw [Int.toNat_natCast]; exact g4)) | (apply Ab.Nm.mk; first | exact Eq.trans (congrArg (fun z => List.take _ (List.drop (z * 5) (kcs (inn L)))) (Int.toNat_natCast i)) hE | exact nrm_) | (apply Xg.s; constructor) | (apply Ab.asm; assumption) | rfl | infer_instance | decide))
      have G4 := G.set (id := M) (b := .cells true 3 (ec (edg x))) (fun q e => by have := hlt q e; omega)
      clear G
      (apply Ab.O.appendL (M + 1); (case hx => exact ev_); (case hL => exact Ab.Gr.lat (by assumption)); (case hy => exact ev_); (case hs => exact srcAll At.hit rfl); (case hk => rfl); (case hm => decide); (case hl => first | rfl | simp); (case hz => decide); (case hb => omega); (case hfree => exact free_))
      intro s4 g
      have T5 := G4.topN g T.new
      have F5 := G4.frN g (Fr.new (hT.free (by omega)) F) (hT.mono (by omega))
      have b5 := Gr.off g (At.miss (by omega) aI) (fun q e => by have := hge q e; omega) (by omega)
      rw [show ecs r ++ ec (edg x) = ecs (r ++ [edg x]) from by rw [ecs_append]; simp [ecs]] at g
      have G5 : Gr s4 3 (N + 2) _ _ (k + 1) _ := Gr.app g (by rw [ecs_length, List.length_append, hk]; rfl) (by omega)
      (repeat' (first | (apply Ab.K.ev; exact ev_) | (apply Ab.K.aops; first | (apply Xg.s; constructor) | (apply Ab.S.guardU; (case hd => rfl); (case hb => (exact ev_; done))) | apply Ab.S.guardG) | (apply Ab.K.aop; first | (apply Og.s; constructor)) | (apply Ab.K.gk; first | (apply Xg.s; constructor) | (apply Ab.gY; case hw => assumption) | (apply Ab.gNT; case hw => assumption) | (apply Ab.gNF; case hw => assumption) | ((first | apply Ab.gD | apply Ab.gDN); all_goals (intro _ _; (first | contradiction | (exfalso; omega) | skip)))) | (apply Ab.K.awp; first | (apply Xg.s; constructor)) | (apply Ab.K.at_; exact at_) | (apply Ab.K.acall; first | assumption | exact c29 _) | (apply Ab.Rg.mk; omega) | (apply Ab.Lt.mk; first | decide | (simp; done) | (simp; omega) | (rw [kcs_length]; omega)) | (apply Ab.Get.mk; first | rfl | (rw [Int.toNat_natCast]; exact g4)) | (apply Ab.Nm.mk; first | exact Eq.trans (congrArg (fun z => List.take _ (List.drop (z * 5) (kcs (inn L)))) (Int.toNat_natCast i)) hE | exact nrm_) | (apply Xg.s; constructor) | (apply Ab.asm; assumption) | rfl | infer_instance | decide))
      exact X.roundN ((inn L).length - (i + 1)) (by omega) ⟨i + 1, k + 1, M + 2, _, _, r ++ [edg x], by exact ev_, by exact ev_, by exact ev_, b5, G5, rfl, by rw [List.length_append, hk]; rfl, hr1, F5, T5, by omega, by omega, rfl⟩
  · have hie : i = (inn L).length := by omega
    have hr2 : r = bnd L := by rw [hr, hie, List.take_length]; rfl
    obtain ⟨q, rfl, aq, hq⟩ := Gr_some G hov
    rw [← hr2, ← hk]
    (repeat' (first | (apply Ab.K.ev; exact ev_) | (apply Ab.K.aops; first | (apply Xg.s; constructor) | (apply Ab.S.guardU; (case hd => rfl); (case hb => (exact ev_; done))) | apply Ab.S.guardG) | (apply Ab.K.aop; first | (apply Og.s; constructor)) | (apply Ab.K.gk; first | (apply Xg.s; constructor) | (apply Ab.gY; case hw => assumption) | (apply Ab.gNT; case hw => assumption) | (apply Ab.gNF; case hw => assumption) | ((first | apply Ab.gD | apply Ab.gDN); all_goals (intro _ _; (first | contradiction | (exfalso; omega) | skip)))) | (apply Ab.K.awp; first | (apply Xg.s; constructor)) | (apply Ab.K.at_; exact at_) | (apply Ab.K.acall; first | assumption | exact c29 _) | (apply Ab.Rg.mk; omega) | (apply Ab.Lt.mk; first | decide | (simp; done) | (simp; omega) | (rw [kcs_length]; omega)) | (apply Ab.Get.mk; first | rfl | (rw [Int.toNat_natCast]; exact g4)) | (apply Ab.Nm.mk; first | exact Eq.trans (congrArg (fun z => List.take _ (List.drop (z * 5) (kcs (inn L)))) (Int.toNat_natCast i)) hE | exact nrm_) | (apply Xg.s; constructor) | (apply Ab.asm; assumption) | rfl | infer_instance | decide))
    apply RetQ.retR (renL (dn [(o, q, .cells true 3 (ecs r))]))
    (case he => exact evr_)
    (case hg => rfl)
    · simp [resV, mpR, mpB, mp1, mpA, renL_hit]
    · exact KeepsR.new1 ho (hT.none (by omega)) F aq (ecs_pl _) rfl
    · simp
end Go.Proofs.Ytdbnpghckgmaoaa

/- trees: the program's forests. -/
namespace Go.Proofs.Ytdbnpghckgmaoaa
set_option linter.unusedVariables false
set_option linter.unusedSimpArgs false
set_option linter.unusedSectionVars false
open Go.RowKit Ab TP
theorem JH.ext {J : JN} {s2 s1 s0 : AHeap} {w : List Int} (h : JH J s2 w) (hO : JOff J s2 s1) (hx : Ext s1 s0) : Ext s2 s0 := by
  have a2 := h.at
  have hd : ∀ i, (s1 i).isSome = true → (s2 i).isSome = true := fun i hi => by
    by_cases e1 : i = J.j
    · rw [e1]; exact a2.1
    · by_cases e2 : i = J.u
      · rw [e2]; exact a2.2.1
      · by_cases e3 : i = J.z
        · rw [e3]; exact a2.2.2.1
        · by_cases e4 : i = J.l
          · rw [e4]; exact a2.2.2.2
          · rw [hO i e1 e2 e3 e4]; exact hi
  refine ⟨fun i hi => hd i (hx.dom i hi), fun i b hb => ?_⟩
  obtain ⟨m, U, S, L, k, q, _⟩ := h
  by_cases e1 : i = J.j
  · subst e1
    rw [q.hj.eq] at hb
    obtain rfl := Option.some.inj hb
    refine .inr fun x hx => ?_
    simp only [jCells, List.mem_cons, List.not_mem_nil, or_false] at hx
    rcases hx with rfl | rfl | rfl | rfl
    · exact a2.2.1
    · exact a2.2.2.1
    · exact a2.2.2.2
    · trivial
  · by_cases e2 : i = J.u
    · subst e2; rw [q.hu.eq] at hb; obtain rfl := Option.some.inj hb; exact .inr (nm_scal (ints_pl _))
    · by_cases e3 : i = J.z
      · subst e3; rw [q.hz.eq] at hb; obtain rfl := Option.some.inj hb; exact .inr (nm_scal (ints_pl _))
      · by_cases e4 : i = J.l
        · subst e4; rw [q.hl.eq] at hb; obtain rfl := Option.some.inj hb; exact .inr (nm_scal (ints_pl _))
        · rw [hO i e1 e2 e3 e4] at hb
          exact (hx.cl i b hb).imp id fun e => ABlk.nm_imp (fun k hk => hd k hk) e
attribute [local irreducible] AOps AOpsD AOp AWp put nargs AHeap.set At Free ACall ACallE thenQ blockQ roundQ RetQ RetE Src bsn
theorem sets43 {s s2 : AHeap} {J : JN} (hc : ACall Try.prog 57 [.int .i64 (64 : Nat)] s (.tuple #[jp J, .int .i64 0]) s2) (hx : Ext s2 s) (hj : (s2 J.j).isSome = true) : ACall Try.prog 45 [] s (jp J) s2 := by
  refine ACall.make Try.func45 rfl (by kernel_rfl) (by decide) rfl (fun N hN => ?_)
  (repeat' (first | (apply Ab.K.ev; exact ev_) | (apply Ab.K.aops; first | (apply Xg.s; constructor) | (apply Ab.S.guardU; (case hd => rfl); (case hb => (exact ev_; done))) | apply Ab.S.guardG) | (apply Ab.K.aop; first | (apply Og.s; constructor)) | (apply Ab.K.gk; first | (apply Xg.s; constructor) | (apply Ab.gY; case hw => assumption) | (apply Ab.gNT; case hw => assumption) | (apply Ab.gNF; case hw => assumption) | ((first | apply Ab.gD | apply Ab.gDN); all_goals (intro _ _; (first | contradiction | (exfalso; omega) | skip)))) | (apply Ab.K.awp; first | (apply Xg.s; constructor)) | (apply Ab.K.at_; exact at_) | (apply Ab.K.acall; first | assumption | exact hc) | (apply Ab.Rg.mk; omega) | (apply Ab.Lt.mk; first | decide | (simp; done) | (simp; omega) | fail) | (apply Ab.Get.mk; first | rfl | fail) | (apply Ab.Nm.mk; first | exact nrm_) | (apply Xg.s; constructor) | (apply Ab.asm; assumption) | rfl | infer_instance | decide))
  all_goals ((first | apply RetQ.ret | apply RetQ.normal); (case he => exact evr_); (case hg => rfl))
  all_goals first | rfl | exact Keeps.ext hx hj
/-- The memory of a forest's check under way. -/
def FM (J : JN) (P : Nat) (s0 s s1 : AHeap) : Prop := At s1 P (.cells true 1 [jp J]) ∧ Fr s1 s0 [] ∧ Ext s1 s ∧ ∃ M, Top M s1 ∧ J.j < M ∧ J.u < M ∧ J.z < M ∧ J.l < M ∧ P < M
theorem forest46 {J : JN} {P : Nat} {s0 s s1 : AHeap} {w : List Int} {e : E} (hJ : JH J s1 w) (hw : w.length ≤ 5000) (hM : FM J P s0 s s1) (hP : P ≠ J.j ∧ P ≠ J.u ∧ P ≠ J.z ∧ P ≠ J.l) (hf : J.free s0) :
    ACallE Try.prog 48 (.agg (ec e).toArray :: #[Value.pointer (some ⟨P, 0, none⟩)].toList) s1 (fun v s' => v = .bool (!(JP.runite w e.a e.b).2) ∧ JH J s' (JP.runite w e.a e.b).1 ∧ FM J P s0 s s') := by
  obtain ⟨aP, F, X, M, T, b1, b2, b3, b4, b5⟩ := hM
  refine ACallE.make Try.func48 rfl (by kernel_rfl) (by decide) rfl (fun N hN => ?_)
  clear hN
  have hs : ∀ i, i ≠ M → (s1.set M (.cells true 1 (ec e))) i = s1 i := fun i hi => AHeap.set_other _ _ hi
  have hJ1 : JH J (s1.set M (.cells true 1 (ec e))) w := hJ.off (hs _ (by omega)) (hs _ (by omega)) (hs _ (by omega)) (hs _ (by omega))
  obtain ⟨s2, c47, hJ2, hO⟩ := unite_step hJ1 hw e.a e.b
  have X1 : Ext (s1.set M (.cells true 1 (ec e))) s := X.set (nm_scal (by simp [ec, pl1, plA]))
  have X2 : Ext s2 s := hJ2.ext hO X1
  have X3 : Ext s2 s1 := hJ2.ext hO ((Ext.refl s1).set (nm_scal (by simp [ec, pl1, plA])))
  have F2 : Fr s2 s0 [] := hO.fr hf (Fr.new (free_of (none_of T F M (Nat.le_refl _))) F)
  have T2 : Top (M + 1) s2 := hO.top T.new ⟨by omega, by omega, by omega, by omega⟩
  have aP2 : At s2 P (.cells true 1 [jp J]) := At.var (by rw [hO P hP.1 hP.2.1 hP.2.2.1 hP.2.2.2, hs P (by omega)]; exact aP.eq)
  have hfin : FM J P s0 s s2 := ⟨aP2, F2, X2, M + 1, T2, by omega, by omega, by omega, by omega, by omega⟩

  (repeat' (first | (apply Ab.K.ev; exact ev_) | (apply Ab.K.aops; first | (apply Xg.s; constructor) | (apply Ab.S.guardU; (case hd => rfl); (case hb => (exact ev_; done))) | apply Ab.S.guardG) | (apply Ab.K.aop; first | (apply Ab.O.boxA (l := ec e) M; (case hx => exact ev_); (case hid => exact T.free (Nat.le_refl _))) | (apply Og.s; constructor)) | (apply Ab.K.gk; first | (apply Xg.s; constructor) | (apply Ab.gY; case hw => assumption) | (apply Ab.gNT; case hw => assumption) | (apply Ab.gNF; case hw => assumption) | ((first | apply Ab.gD | apply Ab.gDN); all_goals (intro _ _; (first | contradiction | (exfalso; omega) | skip)))) | (apply Ab.K.awp; first | (apply Xg.s; constructor)) | (apply Ab.K.at_; exact at_) | (apply Ab.K.acall; first | assumption | exact c47) | (apply Ab.Rg.mk; omega) | (apply Ab.Lt.mk; first | decide | (simp; done) | (simp; omega) | fail) | (apply Ab.Get.mk; first | rfl | fail) | (apply Ab.Nm.mk; first | exact nrm_) | (apply Xg.s; constructor) | (apply Ab.asm; assumption) | rfl | infer_instance | decide))

  all_goals ((first | apply RetE.ret | apply RetE.normal); (case he => exact evr_); (case hg => rfl))
  all_goals first | exact ⟨rfl, hJ2, hfin⟩ | exact Keeps.ext X3 (plR.nm rfl)
noncomputable def cB (l : List E) (i : Nat) : Bool := open Classical in decide (∃ e, l[i]? = some e ∧ Conn (l.take i) e.a e.b)
theorem cB_iff {l : List E} {i : Nat} : cB l i = true ↔ ∃ e, l[i]? = some e ∧ Conn (l.take i) e.a e.b := by simp [cB]
theorem forest_of {l : List E} (h : ∀ j, j < l.length → cB l j = false) : Forest l := fun i e hi hc => by
  have := h i (List.getElem?_eq_some_iff.1 hi).1
  rw [cB_iff.2 ⟨e, hi, hc⟩] at this; cases this
theorem forest_not {l : List E} {i : Nat} (h : cB l i = true) : ¬ Forest l := fun hf => by
  obtain ⟨e, he, hc⟩ := cB_iff.1 h
  exact hf i e he hc
theorem cls_start : Cls (start 65) [] where
  ok := (jinv_start 64).wok
  len := start_length 65
  eq x y h1 h2 h3 h4 := by
    rw [g_start ⟨by omega, by rw [start_length]; omega⟩, g_start ⟨by omega, by rw [start_length]; omega⟩]
    exact ⟨fun h => by rw [h]; exact .refl _, fun h => h.nil⟩
theorem contains45f {J : JN} {P : Nat} {s0 s : AHeap} {A : Option Addr} {n c : Nat} {on : Option Nat} {l : List E} (h : EA s0 (.slice A n c) on l) (hg : TP.Good l) (hn : n ≤ 512) (hJ : JH J s (start 65)) (hM : FM J P s0 s s) (hP : P ≠ J.j ∧ P ≠ J.u ∧ P ≠ J.z ∧ P ≠ J.l) (hf : J.free s0) :
    ACallE Try.prog 47 [.slice A n c, .func (.func 48) #[] #[.pointer (some ⟨P, 0, none⟩)]] s (fun v s' => v = .bool (!foB l) ∧ FM J P s0 s s') := by
  have hnl : n = l.length := by obtain ⟨_, _, e⟩ := h.isl; injection e
  refine (contains45 (l := l) (b := cB l) (fun i s1 => FM J P s0 s s1 ∧ ∃ w, JH J s1 w ∧ w.length = 65 ∧ ((∀ j, j < i → cB l j = false) → Cls w (l.take i))) (fun i s1 hI => ⟨on, h.fr hI.1.2.1⟩) (fun i s1 hI => hI.1.2.2.1) (fun i e s1 hi hb hI => ?_) ⟨hM, _, hJ, start_length 65, fun _ => cls_start⟩ hn).mono fun v s' hh => ?_
  · obtain ⟨hM1, w, hJ1, hw, hcl⟩ := hI
    have hC := hcl hb
    have hem := hg.1 e (List.mem_of_getElem? hi)
    have htk : l.take (i + 1) = l.take i ++ [e] := by rw [List.take_add_one, hi]; rfl
    refine (forest46 (e := e) hJ1 (by omega) hM1 hP hf).mono fun v s' hh => ?_
    obtain ⟨rfl, hJ2, hM2⟩ := hh
    rcases hC.step hem.1 hem.2.1 with ⟨h1, h2, h3⟩ | ⟨h1, h3⟩
    · have hcb : cB l i = false := by
        cases hh : cB l i with
        | false => rfl
        | true => obtain ⟨f, hf1, hf2⟩ := cB_iff.1 hh; rw [hi] at hf1; obtain rfl := Option.some.inj hf1; exact absurd hf2 h3
      exact ⟨by rw [h1, hcb]; rfl, hM2, _, hJ2, h2.len, fun _ => by rw [htk]; exact h2⟩
    · have hcb : cB l i = true := cB_iff.2 ⟨e, hi, h3⟩
      have hsame : (JP.runite w e.a e.b).1 = w := by
        unfold JP.runite at h1 ⊢
        split
        · rename_i hc; rw [if_pos hc] at h1; cases h1
        · rfl
      exact ⟨by rw [h1, hcb]; rfl, hM2, _, hJ2, by rw [hsame]; exact hw, fun h => by rw [h i (by omega)] at hcb; cases hcb⟩
  · rcases hh with ⟨i, h1, h2, h3, rfl, hI⟩ | ⟨h1, rfl, hI⟩
    · refine ⟨?_, hI.1⟩
      have : foB l = false := by
        cases hh : foB l with
        | false => rfl
        | true => exact absurd (foB_iff.1 hh) (forest_not h2)
      rw [this]; rfl
    · refine ⟨?_, hI.1⟩
      have : foB l = true := foB_iff.2 (forest_of fun j hj => h1 j (by omega))
      rw [this]; rfl
noncomputable def gfB (l : List E) : Bool := decide (TP.Good l) && foB l
theorem forest28 {s : AHeap} {A : Option Addr} {n c : Nat} {on : Option Nat} {l : List E} (h : EA s (.slice A n c) on l) (hn : n ≤ 512) : ACall Try.prog 32 [.slice A n c] s (.bool (gfB l)) s := by
  refine ACall.make Try.func32 rfl (by kernel_rfl) (by decide) rfl (fun N hN => ?_)
  have hT : Top N s := hN
  obtain ⟨J, hJe⟩ : ∃ J : JN, J = ⟨N, N + 1, N + 2, N + 3, 65, 65, 65⟩ := ⟨_, rfl⟩
  have hf : J.free s := by subst hJe; exact ⟨hT.none (Nat.le_refl _), hT.none (by show N ≤ N + 1; omega), hT.none (by show N ≤ N + 2; omega), hT.none (by show N ≤ N + 3; omega)⟩
  obtain ⟨s2, c50, hJ, hO⟩ := new_step (s := s) (n := 64) (J := J) (by omega) hf (by subst hJe; simp) (by subst hJe; exact ⟨rfl, rfl, rfl⟩)
  have X2 : Ext s2 s := hJ.ext hO (Ext.refl s)
  have c43 := sets43 c50 X2 hJ.at.1
  have jb : J.j = N ∧ J.u = N + 1 ∧ J.z = N + 2 ∧ J.l = N + 3 := by subst hJe; exact ⟨rfl, rfl, rfl, rfl⟩
  obtain ⟨j1, j2, j3, j4⟩ := jb
  have F2 : Fr s2 s [] := hO.fr hf (Fr.refl _ _)
  have T2 : Top (N + 4) s2 := hO.top (hT.mono (by omega)) ⟨by omega, by omega, by omega, by omega⟩
  obtain ⟨s3, hs3⟩ : ∃ s3, s3 = (s2.set (N + 4) (.cells true 1 [.pointer none])).set (N + 4) (.cells true 1 [jp J]) := ⟨_, rfl⟩
  have F3 : Fr s3 s [] := by rw [hs3]; exact Fr.new (hT.free (by omega)) (Fr.new (hT.free (by omega)) F2)
  have T3 : Top (N + 5) s3 := by rw [hs3]; exact Top.set T2.new (by omega)
  have hoff : ∀ i, i < N + 4 → s3 i = s2 i := fun i hi => by rw [hs3, AHeap.set_other _ _ (by omega), AHeap.set_other _ _ (by omega)]
  have hJ3 : JH J s3 (start 65) := hJ.off (hoff _ (by omega)) (hoff _ (by omega)) (hoff _ (by omega)) (hoff _ (by omega))
  have aP : At s3 (N + 4) (.cells true 1 [jp J]) := by rw [hs3]; exact At.hit
  have hM : FM J (N + 4) s s3 s3 := ⟨aP, F3, Ext.refl _, N + 5, T3, by omega, by omega, by omega, by omega, by omega⟩
  have c44 := checkAll44 (h.fr F3) hn

  rw [hs3] at c44
  by_cases hg : TP.Good l
  · have c45 := contains45f h hg hn hJ3 hM ⟨by omega, by omega, by omega, by omega⟩ hf
    rw [hs3] at c45
    rw [ck_y hg] at c44
    (repeat' (first | (apply Ab.K.ev; exact ev_) | (apply Ab.K.aops; first | (apply Xg.s; constructor) | (apply Ab.S.guardU; (case hd => rfl); (case hb => (exact ev_; done))) | apply Ab.S.guardG) | (apply Ab.K.aop; first | (first | (apply Ab.O.alloc1 (N + 4); (case hid => exact T2.free (Nat.le_refl _)); (case hp => rfl)) | (apply Ab.O.makeFunc; (case h1 => exact evs_); (case h2 => exact evs_); (case a1 => rfl); (case a2 => rfl)) | (apply Ab.O.callFE; (case ha => exact evs_); (case hc => exact c45))) | (apply Og.s; constructor)) | (apply Ab.K.gk; first | (apply Xg.s; constructor) | (apply Ab.gY; case hw => assumption) | (apply Ab.gNT; case hw => assumption) | (apply Ab.gNF; case hw => assumption) | ((first | apply Ab.gD | apply Ab.gDN); all_goals (intro _ _; (first | contradiction | (exfalso; omega) | skip)))) | (apply Ab.K.awp; first | (apply Xg.s; constructor)) | (apply Ab.K.at_; exact at_) | (apply Ab.K.acall; first | assumption | first | exact c43 | exact c44) | (apply Ab.Rg.mk; omega) | (apply Ab.Lt.mk; first | decide | (simp; done) | (simp; omega) | fail) | (apply Ab.Get.mk; first | rfl | fail) | (apply Ab.Nm.mk; first | exact nrm_) | (apply Xg.s; constructor) | (apply Ab.asm; assumption) | rfl | infer_instance | decide))
    rintro v s4 ⟨rfl, hM4⟩
    have F4 := hM4.2.1
    have hv : gfB l = foB l := by simp [gfB, hg]
    rw [hv]
    clear c45 c44 c43
    cases foB l
    · (repeat' (first | (apply Ab.K.ev; exact ev_) | (apply Ab.K.aops; first | (apply Xg.s; constructor) | (apply Ab.S.guardU; (case hd => rfl); (case hb => (exact ev_; done))) | apply Ab.S.guardG) | (apply Ab.K.aop; first | (first | (apply Ab.O.alloc1 (N + 4); (case hid => exact T2.free (Nat.le_refl _)); (case hp => rfl)) | (apply Ab.O.makeFunc; (case h1 => exact evs_); (case h2 => exact evs_); (case a1 => rfl); (case a2 => rfl)) | (apply Ab.O.callFE; (case ha => exact evs_); (case hc => exact c45))) | (apply Og.s; constructor)) | (apply Ab.K.gk; first | (apply Xg.s; constructor) | (apply Ab.gY; case hw => assumption) | (apply Ab.gNT; case hw => assumption) | (apply Ab.gNF; case hw => assumption) | ((first | apply Ab.gD | apply Ab.gDN); all_goals (intro _ _; (first | contradiction | (exfalso; omega) | skip)))) | (apply Ab.K.awp; first | (apply Xg.s; constructor)) | (apply Ab.K.at_; exact at_) | (apply Ab.K.acall; first | assumption | first | exact c43 | exact c44) | (apply Ab.Rg.mk; omega) | (apply Ab.Lt.mk; first | decide | (simp; done) | (simp; omega) | fail) | (apply Ab.Get.mk; first | rfl | fail) | (apply Ab.Nm.mk; first | exact nrm_) | (apply Xg.s; constructor) | (apply Ab.asm; assumption) | rfl | infer_instance | decide))
      all_goals ((first | apply RetQ.ret | apply RetQ.normal); (case he => exact evr_); (case hg => rfl))
      all_goals first | rfl | exact Keeps.fr F4 (plR.nm rfl)
    · (repeat' (first | (apply Ab.K.ev; exact ev_) | (apply Ab.K.aops; first | (apply Xg.s; constructor) | (apply Ab.S.guardU; (case hd => rfl); (case hb => (exact ev_; done))) | apply Ab.S.guardG) | (apply Ab.K.aop; first | (first | (apply Ab.O.alloc1 (N + 4); (case hid => exact T2.free (Nat.le_refl _)); (case hp => rfl)) | (apply Ab.O.makeFunc; (case h1 => exact evs_); (case h2 => exact evs_); (case a1 => rfl); (case a2 => rfl)) | (apply Ab.O.callFE; (case ha => exact evs_); (case hc => exact c45))) | (apply Og.s; constructor)) | (apply Ab.K.gk; first | (apply Xg.s; constructor) | (apply Ab.gY; case hw => assumption) | (apply Ab.gNT; case hw => assumption) | (apply Ab.gNF; case hw => assumption) | ((first | apply Ab.gD | apply Ab.gDN); all_goals (intro _ _; (first | contradiction | (exfalso; omega) | skip)))) | (apply Ab.K.awp; first | (apply Xg.s; constructor)) | (apply Ab.K.at_; exact at_) | (apply Ab.K.acall; first | assumption | first | exact c43 | exact c44) | (apply Ab.Rg.mk; omega) | (apply Ab.Lt.mk; first | decide | (simp; done) | (simp; omega) | fail) | (apply Ab.Get.mk; first | rfl | fail) | (apply Ab.Nm.mk; first | exact nrm_) | (apply Xg.s; constructor) | (apply Ab.asm; assumption) | rfl | infer_instance | decide))
      all_goals ((first | apply RetQ.ret | apply RetQ.normal); (case he => exact evr_); (case hg => rfl))
      all_goals first | rfl | exact Keeps.fr F4 (plR.nm rfl)
  · have hv : gfB l = false := by simp [gfB, hg]
    rw [hv]
    rw [ck_n hg] at c44
    rw [hs3] at F3
    (repeat' (first | (apply Ab.K.ev; exact ev_) | (apply Ab.K.aops; first | (apply Xg.s; constructor) | (apply Ab.S.guardU; (case hd => rfl); (case hb => (exact ev_; done))) | apply Ab.S.guardG) | (apply Ab.K.aop; first | (first | (apply Ab.O.alloc1 (N + 4); (case hid => exact T2.free (Nat.le_refl _)); (case hp => rfl)) | (apply Ab.O.makeFunc; (case h1 => exact evs_); (case h2 => exact evs_); (case a1 => rfl); (case a2 => rfl)) | (apply Ab.O.callFE; (case ha => exact evs_); (case hc => exact c45))) | (apply Og.s; constructor)) | (apply Ab.K.gk; first | (apply Xg.s; constructor) | (apply Ab.gY; case hw => assumption) | (apply Ab.gNT; case hw => assumption) | (apply Ab.gNF; case hw => assumption) | ((first | apply Ab.gD | apply Ab.gDN); all_goals (intro _ _; (first | contradiction | (exfalso; omega) | skip)))) | (apply Ab.K.awp; first | (apply Xg.s; constructor)) | (apply Ab.K.at_; exact at_) | (apply Ab.K.acall; first | assumption | first | exact c43 | exact c44) | (apply Ab.Rg.mk; omega) | (apply Ab.Lt.mk; first | decide | (simp; done) | (simp; omega) | fail) | (apply Ab.Get.mk; first | rfl | fail) | (apply Ab.Nm.mk; first | exact nrm_) | (apply Xg.s; constructor) | (apply Ab.asm; assumption) | rfl | infer_instance | decide))
    all_goals ((first | apply RetQ.ret | apply RetQ.normal); (case he => exact evr_); (case hg => rfl))
    all_goals first | rfl | exact Keeps.fr F3 (plR.nm rfl)
end Go.Proofs.Ytdbnpghckgmaoaa

/- trees: the first edge of a kind by a pure function; copies of edges. -/
namespace Go.Proofs.Ytdbnpghckgmaoaa
set_option linter.unusedVariables false
set_option linter.unusedSimpArgs false
set_option linter.unusedSectionVars false
open Go.RowKit Ab TP
theorem _root_.Go.Proofs.Ytdbnpghckgmaoaa.Ab.ACallE.toCall {P : Program} {f : FuncId} {args : List Value} {s s' : AHeap} {v : Value} {Q : Value → AHeap → Prop} (h : ACallE P f args s Q) (hq : ∀ v1 s1, Q v1 s1 → v1 = v ∧ s1 = s') : ACall P f args s v s' :=
  ⟨h.1, fun W0 ρ w args' ha hS => (h.2 W0 ρ w args' ha hS).mono fun e w' hh => by
    obtain ⟨v1, s1, ρ', v', q, r⟩ := hh
    obtain ⟨rfl, rfl⟩ := hq v1 s1 q
    exact ⟨ρ', v', r⟩⟩
attribute [local irreducible] AOps AOpsD AOp AWp put nargs AHeap.set At Free ACall ACallE thenQ blockQ roundQ RetQ RetE Src bsn
def atB (l : List E) (b : E → Bool) (i : Nat) : Bool := match l[i]? with
  | some e => b e
  | none => false
theorem atB_at {l : List E} {b : E → Bool} {i : Nat} {e : E} (h : l[i]? = some e) : atB l b i = b e := by unfold atB; rw [h]
theorem index38p {s : AHeap} {A : Option Addr} {n c : Nat} {on : Option Nat} {l : List E} {fn : FuncId} {caps : Array Value} {b : E → Bool} (h : EA s (.slice A n c) on l) (hF : ∀ e, e ∈ l → ACall Try.prog fn (.agg (ec e).toArray :: caps.toList) s (.bool (b e)) s) (hn : n ≤ 512) :
    ACallE Try.prog 53 [.slice A n c, .func (.func fn) #[] caps] s (fun v s' => s' = s ∧ ((∃ i e, i < n ∧ l[i]? = some e ∧ b e = true ∧ (∀ f ∈ l.take i, b f = false) ∧ v = .int .i64 i) ∨ ((∀ f ∈ l, b f = false) ∧ v = .int .i64 (-1)))) := by
  have hnl : n = l.length := by obtain ⟨_, _, e⟩ := h.isl; injection e
  refine (index38 (l := l) (b := atB l b) (fun _ s1 => s1 = s) (fun i s1 e => ⟨on, by rw [e]; exact h⟩) (fun i s1 e => by rw [e]; exact Ext.refl _) (fun i e s1 hi _ hs => ?_) rfl hn).mono fun v s' hh => ?_
  · rw [hs, atB_at hi]
    exact (hF e (List.mem_of_getElem? hi)).toE.mono fun v1 s2 hh => hh
  · have hall : ∀ k, k ≤ n → (∀ j, j < k → atB l b j = false) → ∀ f ∈ l.take k, b f = false := fun k hk hb f hf => by
      obtain ⟨j, hj⟩ := List.mem_iff_getElem?.1 hf
      have hjk : j < k := by have := (List.getElem?_eq_some_iff.1 hj).1; rw [List.length_take] at this; omega
      rw [List.getElem?_take, if_pos hjk] at hj
      exact (atB_at (b := b) hj).symm.trans (hb j hjk)
    rcases hh with ⟨i, h1, h2, h3, h4, h5⟩ | ⟨h1, h2, h3⟩
    · obtain ⟨e, he⟩ : ∃ e, l[i]? = some e := ⟨_, List.getElem?_eq_getElem (by omega)⟩
      rw [atB_at he] at h2
      exact ⟨h5, .inl ⟨i, e, h1, he, h2, hall i (by omega) h3, h4⟩⟩
    · exact ⟨h3, .inr ⟨by have := hall n (Nat.le_refl _) h1; rwa [hnl, List.take_length] at this, h2⟩⟩
/-! ### copies -/
theorem clone32_nil {s : AHeap} {c : Nat} : ACall Try.prog 38 [.slice none 0 c] s (.slice none 0 0) s := by
  (refine ACall.make Try.func38 rfl (by kernel_rfl) (by decide) rfl (fun N hN => ?_); have hT : Top N _ := hN; (repeat' (first | (apply Ab.K.ev; exact ev_) | (apply Ab.K.aops; first | (apply Xg.s; constructor) | (apply Ab.S.guardU; (case hd => rfl); (case hb => (exact ev_; done))) | apply Ab.S.guardG) | (apply Ab.K.aop; first | (apply Og.s; constructor)) | (apply Ab.K.gk; first | (apply Xg.s; constructor) | (apply Ab.gY; case hw => assumption) | (apply Ab.gNT; case hw => assumption) | (apply Ab.gNF; case hw => assumption) | ((first | apply Ab.gD | apply Ab.gDN); all_goals (intro _ _; (first | contradiction | (exfalso; omega) | skip)))) | (apply Ab.K.awp; first | (apply Xg.s; constructor)) | (apply Ab.K.at_; exact at_) | (apply Ab.K.acall; first | assumption | fail) | (apply Ab.Rg.mk; omega) | (apply Ab.Lt.mk; first | decide | (simp; done) | (simp; omega) | fail) | (apply Ab.Get.mk; first | rfl | fail) | (apply Ab.Nm.mk; first | exact nrm_) | (apply Xg.s; constructor) | (apply Ab.asm; assumption) | rfl | infer_instance | decide)); (all_goals ((first | apply RetQ.ret | apply RetQ.normal); (case he => exact evr_); (case hg => rfl))); (all_goals first | rfl | (apply Keeps.fr; (case h => exact fr_); (case hv => exact plR.nm rfl)) | fail))
theorem EA.cells {s : AHeap} {q n c : Nat} {on : Option Nat} {l : List E} (h : EA s (.slice (some ⟨q, 0, none⟩) n c) on l) : ∃ rw cs, At s q (.cells rw 3 cs) ∧ n = l.length ∧ n * 3 ≤ cs.length ∧ cs.take (n * 3) = ecs l := by
  cases h with
  | @blk q _ rw cs _ h a b =>
    refine ⟨rw, cs, h, rfl, ?_, b⟩
    have := congrArg List.length b
    rw [List.length_take, ecs_length] at this
    omega
theorem EA.nil_len {s : AHeap} {n c : Nat} {on : Option Nat} {l : List E} (h : EA s (.slice none n c) on l) : n = 0 ∧ c = 0 ∧ l = [] := by
  cases h with
  | nil => exact ⟨rfl, rfl, rfl⟩
theorem EA.addr {s : AHeap} {A : Option Addr} {n c : Nat} {on : Option Nat} {l : List E} (h : EA s (.slice A n c) on l) : A = none ∨ ∃ q, A = some ⟨q, 0, none⟩ := by
  cases h with
  | nil => exact .inl rfl
  | blk => exact .inr ⟨_, rfl⟩
theorem clone32 {s : AHeap} {q n c o : Nat} {on : Option Nat} {l : List E} (h : EA s (.slice (some ⟨q, 0, none⟩) n c) on l) (hn : n ≤ 512) (ho : s o = none) :
    ACall Try.prog 38 [.slice (some ⟨q, 0, none⟩) n c] s (.slice (some ⟨o, 0, none⟩) n n) (s.set o (.cells true 3 (ecs l))) := by
  obtain ⟨rw1, cs, hA, hnl, hcs, htk⟩ := h.cells
  have hbo : q ≠ o := fun e => by subst e; rw [hA.eq] at ho; cases ho
  have hfo : Free s o := free_of ho
  refine ACall.make Try.func38 rfl (by kernel_rfl) (by decide) rfl (fun N hN => ?_)
  have hT : Top N s := hN
  by_cases hn0 : n = 0
  · subst hn0
    obtain rfl : l = [] := List.length_eq_zero_iff.1 hnl.symm
    (repeat' (first | (apply Ab.K.ev; exact ev_) | (apply Ab.K.aops; first | (apply Xg.s; constructor) | (apply Ab.S.guardU; (case hd => rfl); (case hb => (exact ev_; done))) | apply Ab.S.guardG) | (apply Ab.K.aop; first | (first | (apply Ab.O.build0 o (te := ⟨.struct [(0, 3), (1, 3), (2, 3)], 3, 24, .agg #[.int .i64 0, .int .i64 0, .int .i64 0]⟩); (case hz => exact ⟨rfl, rfl⟩); (case hid => exact hfo)) | (apply Ab.O.appendNone; (case hx => exact ev_); (case hy => exact ev_); (case hs => exact Src.none); (case hk => rfl))) | (apply Og.s; constructor)) | (apply Ab.K.gk; first | (apply Xg.s; constructor) | (apply Ab.gY; case hw => assumption) | (apply Ab.gNT; case hw => assumption) | (apply Ab.gNF; case hw => assumption) | ((first | apply Ab.gD | apply Ab.gDN); all_goals (intro _ _; (first | contradiction | (exfalso; omega) | skip)))) | (apply Ab.K.awp; first | (apply Xg.s; constructor)) | (apply Ab.K.at_; exact at_) | (apply Ab.K.acall; first | assumption | fail) | (apply Ab.Rg.mk; omega) | (apply Ab.Lt.mk; first | decide | (simp; done) | (simp; omega) | fail) | (apply Ab.Get.mk; first | rfl | fail) | (apply Ab.Nm.mk; first | exact nrm_) | (apply Xg.s; constructor) | (apply Ab.asm; assumption) | rfl | infer_instance | decide))
    all_goals ((first | apply RetQ.ret | apply RetQ.normal); (case he => exact evr_); (case hg => rfl))
    · rfl
    · exact Keeps.upd [(o, .cells true 3 [])] (Fr.set (by simp) (Fr.refl _ _)) ⟨⟨At.hit, by intro x hx; cases hx⟩, trivial⟩ (by simp [nmR, nmB, nm1, nmA, updH, AHeap.set_same])
  · have hbN : q < N := hT.lt hA
    have hm : N + o + 1 ≠ o := by omega
    (repeat' (first | (apply Ab.K.ev; exact ev_) | (apply Ab.K.aops; first | (apply Xg.s; constructor) | (apply Ab.S.guardU; (case hd => rfl); (case hb => (exact ev_; done))) | apply Ab.S.guardG) | (apply Ab.K.aop; first | (apply Ab.O.build0 (N + o + 1) (te := ⟨.struct [(0, 3), (1, 3), (2, 3)], 3, 24, .agg #[.int .i64 0, .int .i64 0, .int .i64 0]⟩); (case hz => exact ⟨rfl, rfl⟩); (case hid => exact free_)) | (apply Og.s; constructor)) | (apply Ab.K.gk; first | (apply Xg.s; constructor) | (apply Ab.gY; case hw => assumption) | (apply Ab.gNT; case hw => assumption) | (apply Ab.gNF; case hw => assumption) | ((first | apply Ab.gD | apply Ab.gDN); all_goals (intro _ _; (first | contradiction | (exfalso; omega) | skip)))) | (apply Ab.K.awp; first | (apply Xg.s; constructor)) | (apply Ab.K.at_; exact at_) | (apply Ab.K.acall; first | assumption | fail) | (apply Ab.Rg.mk; omega) | (apply Ab.Lt.mk; first | decide | (simp; done) | (simp; omega) | fail) | (apply Ab.Get.mk; first | rfl | fail) | (apply Ab.Nm.mk; first | exact nrm_) | (apply Xg.s; constructor) | (apply Ab.asm; assumption) | rfl | infer_instance | decide))
    refine O.appendL o (v := .slice (some ⟨N + o + 1, 0, none⟩) 0 0) (vy := .slice (some ⟨q, 0, none⟩) n c) (es := 3) (n := 0) (m := n) (xs := []) (ys := ecs l) (on := some (N + o + 1)) ?_ (LAt.blk At.hit rfl) ?_ (Src.sl (At.miss (by omega) hA) hn0 (by omega) (by rw [List.drop_zero]; exact htk)) rfl hn0 (by rw [ecs_length, hnl]) (by decide) (by omega) (by exact free_) ?_
    · exact ev_
    · exact ev_
    intro s2 g
    (repeat' (first | (apply Ab.K.ev; exact ev_) | (apply Ab.K.aops; first | (apply Xg.s; constructor) | (apply Ab.S.guardU; (case hd => rfl); (case hb => (exact ev_; done))) | apply Ab.S.guardG) | (apply Ab.K.aop; first | (apply Og.s; constructor)) | (apply Ab.K.gk; first | (apply Xg.s; constructor) | (apply Ab.gY; case hw => assumption) | (apply Ab.gNT; case hw => assumption) | (apply Ab.gNF; case hw => assumption) | ((first | apply Ab.gD | apply Ab.gDN); all_goals (intro _ _; (first | contradiction | (exfalso; omega) | skip)))) | (apply Ab.K.awp; first | (apply Xg.s; constructor)) | (apply Ab.K.at_; exact at_) | (apply Ab.K.acall; first | assumption | fail) | (apply Ab.Rg.mk; omega) | (apply Ab.Lt.mk; first | decide | (simp; done) | (simp; omega) | fail) | (apply Ab.Get.mk; first | rfl | fail) | (apply Ab.Nm.mk; first | exact nrm_) | (apply Xg.s; constructor) | (apply Ab.asm; assumption) | rfl | infer_instance | decide))
    all_goals ((first | apply RetQ.ret | apply RetQ.normal); (case he => exact evr_); (case hg => rfl))
    · simp only [resV, Nat.zero_add]
    · have f0 : Fr (s.set (N + o + 1) (.cells true 3 [])) s [o] := Fr.new (hT.free (by omega)) (Fr.refl _ _)
      have f2 : Fr s2 s [o] := g.fr f0 (fun q e => .inl (by obtain rfl := Option.some.inj e; exact hT.none (by omega)))
      have hh := g.hit
      rw [List.nil_append] at hh
      exact Keeps.upd [(o, .cells true 3 (ecs l))] f2 ⟨⟨hh, nm_scal (ecs_pl _)⟩, trivial⟩ (by simp [nmR, nmB, nm1, nmA, updH, AHeap.set_same])
end Go.Proofs.Ytdbnpghckgmaoaa

/- trees: the program's list of the linked. -/
namespace Go.Proofs.Ytdbnpghckgmaoaa
set_option linter.unusedVariables false
set_option linter.unusedSimpArgs false
set_option linter.unusedSectionVars false
open Go.RowKit Ab TP
attribute [local irreducible] AOps AOpsD AOp AWp put nargs AHeap.set At Free ACall ACallE thenQ blockQ roundQ RetQ RetE Src bsn Gr
set_option maxHeartbeats 4000000 in
theorem linked34 {s : AHeap} {A : Option Addr} {n c : Nat} {on : Option Nat} {l : List E} {a : Int} {o : Nat} (h : EA s (.slice A n c) on l) (hg : TP.Good l) (ha : TP.Node a) (hn : n ≤ 512) (ho : s o = none) :
    ACall Try.prog 36 [.slice A n c, .int .i64 a] s (.slice (some ⟨o, 0, none⟩) (side l a).length (side l a).length) (s.set o (.cells true 1 (ints (side l a)))) := by
  have c30 := ups30 h hg ha hn
  refine ACall.make Try.func36 rfl (by kernel_rfl) (by decide) rfl (fun N hN => ?_)
  have hT : Top N s := hN
  (repeat' (first | (apply Ab.K.ev; exact ev_) | (apply Ab.K.aops; first | (apply Xg.s; constructor) | (apply Ab.S.guardU; (case hd => rfl); (case hb => (exact ev_; done))) | apply Ab.S.guardG) | (apply Ab.K.aop; first | (apply Ab.O.callFE; (case ha => exact evs_); (case hc => exact c30)) | (apply Og.s; constructor)) | (apply Ab.K.gk; first | (apply Xg.s; constructor) | (apply Ab.gY; case hw => assumption) | (apply Ab.gNT; case hw => assumption) | (apply Ab.gNF; case hw => assumption) | ((first | apply Ab.gD | apply Ab.gDN); all_goals (intro _ _; (first | contradiction | (exfalso; omega) | skip)))) | (apply Ab.K.awp; first | (apply Xg.s; constructor)) | (apply Ab.K.at_; exact at_) | (apply Ab.K.acall; first | assumption | fail) | (apply Ab.Rg.mk; omega) | (apply Ab.Lt.mk; first | decide | (simp; done) | (simp; omega) | fail) | (apply Ab.Get.mk; first | rfl | fail) | (apply Ab.Nm.mk; first | exact nrm_) | (apply Xg.s; constructor) | (apply Ab.asm; assumption) | rfl | infer_instance | decide))
  rintro v s2 ⟨U, Q, u, rfl, hu, rfl, B⟩
  clear c30
  obtain ⟨M0, hM0⟩ : ∃ M0, M0 = max N (u + 1) := ⟨_, rfl⟩
  have T0 : Top M0 (s.set u (.cells true 1 (ints U))) := (hT.mono (by omega)).set (by omega)
  have F0 : Fr (s.set u (.cells true 1 (ints U))) s [] := Fr.new (free_of hu) (Fr.refl _ _)
  have hz0 : JP.g U 0 = 0 := by
    by_cases h0 : JP.g U 0 = 0
    · exact h0
    · have := B.node 0 ((B.mem 0 (by omega) (by omega)).1 h0); exact absurd this.1 (by omega)
  have hU := B.len
  (repeat' (first | (apply Ab.K.ev; exact ev_) | (apply Ab.K.aops; first | (apply Xg.s; constructor) | (apply Ab.S.guardU; (case hd => rfl); (case hb => (exact ev_; done))) | apply Ab.S.guardG) | (apply Ab.K.aop; first | (apply Og.s; constructor)) | (apply Ab.K.gk; first | (apply Xg.s; constructor) | (apply Ab.gY; case hw => assumption) | (apply Ab.gNT; case hw => assumption) | (apply Ab.gNF; case hw => assumption) | ((first | apply Ab.gD | apply Ab.gDN); all_goals (intro _ _; (first | contradiction | (exfalso; omega) | skip)))) | (apply Ab.K.awp; first | (apply Xg.s; constructor)) | (apply Ab.K.at_; exact at_) | (apply Ab.K.acall; first | assumption | fail) | (apply Ab.Rg.mk; omega) | (apply Ab.Lt.mk; first | decide | (simp; done) | (simp; omega) | fail) | (apply Ab.Get.mk; first | rfl | fail) | (apply Ab.Nm.mk; first | exact nrm_) | (apply Xg.s; constructor) | (apply Ab.asm; assumption) | rfl | infer_instance | decide))
  refine AWp.loop (fun kk tm s1 => ∃ (i k M : Nat) (v : Value) (on : Option Nat) (r : List Int), Ev tm (.tmp 5) v ∧ Ev tm (.tmp 10) (.slice (some ⟨u, 0, none⟩) 65 65) ∧ Ev tm (.tmp 11) (.int .i64 (65 : Nat)) ∧ Ev tm (.tmp 12) (.int .i64 i) ∧ At s1 u (.cells true 1 (ints U)) ∧ Gr s1 1 M0 v on k (ints r) ∧ k = r.length ∧ r = lkN (reachB l a) (i - 1) ∧ Fr s1 s [] ∧ Top M s1 ∧ M0 ≤ M ∧ i ≤ 65 ∧ kk = 65 - i) 65 ?_ ?_
  · exact ⟨0, 0, M0, _, _, [], by exact ev_, by exact ev_, by exact ev_, by exact ev_, by exact at_, Gr.nil, rfl, rfl, F0, T0, Nat.le_refl _, by omega, rfl⟩
  clear T0 F0
  rintro kk tm s1 ⟨i, k, M, v, on, r, e5, e10, e11, e12, au, G, hk, hr, F, T, hMM, hi, hkk⟩
  have hlt := G.lt T
  have hge := G.from_
  have huM := T.lt au
  have hlen := lkN_len (f := reachB l a) (k := i - 1)
  rw [← hr] at hlen
  by_cases hin : i < 65
  · have gU := ints_at (l := U) (i := (i : Int)) ⟨by omega, by rw [B.len]; omega⟩
    rw [Int.toNat_natCast] at gU
    by_cases hz : JP.g U i = 0
    · have hr1 : r = lkN (reachB l a) (i + 1 - 1) := by
        cases i with
        | zero => exact hr
        | succ j =>
          have hb : reachB l a (j + 1) = false := by
            rw [← B.reach ha (i := j + 1) (by omega)]; simp; exact hz
          rw [hr]; show lkN _ j = lkN _ (j + 1)
          rw [lkN, if_neg (by rw [hb]; decide), List.append_nil]
      rw [hz] at gU
      (repeat' (first | (apply Ab.K.ev; exact ev_) | (apply Ab.K.aops; first | (apply Xg.s; constructor) | (apply Ab.S.guardU; (case hd => rfl); (case hb => (exact ev_; done))) | apply Ab.S.guardG) | (apply Ab.K.aop; first | (apply Og.s; constructor)) | (apply Ab.K.gk; first | (apply Xg.s; constructor) | (apply Ab.gY; case hw => assumption) | (apply Ab.gNT; case hw => assumption) | (apply Ab.gNF; case hw => assumption) | ((first | apply Ab.gD | apply Ab.gDN); all_goals (intro _ _; (first | contradiction | (exfalso; omega) | skip)))) | (apply Ab.K.awp; first | (apply Xg.s; constructor)) | (apply Ab.K.at_; exact at_) | (apply Ab.K.acall; first | assumption | fail) | (apply Ab.Rg.mk; omega) | (apply Ab.Lt.mk; first | decide | (simp; done) | (simp; omega) | fail) | (apply Ab.Get.mk; first | rfl | (rw [Int.toNat_natCast]; exact gU)) | (apply Ab.Nm.mk; first | exact nrm_) | (apply Xg.s; constructor) | (apply Ab.asm; assumption) | rfl | infer_instance | decide))
      exact X.roundN (65 - (i + 1)) (by omega) ⟨i + 1, k, M, v, on, r, by exact ev_, by exact ev_, by exact ev_, by exact ev_, au, G, hk, hr1, F, T, hMM, by omega, rfl⟩
    · have hr1 : r ++ [(i : Int)] = lkN (reachB l a) (i + 1 - 1) := by
        cases i with
        | zero => exact absurd hz0 hz
        | succ j =>
          have hb : reachB l a (j + 1) = true := by
            rw [← B.reach ha (i := j + 1) (by omega)]; simpa using hz
          rw [hr]; show lkN _ j ++ _ = lkN _ (j + 1)
          rw [lkN, if_pos hb]
      (repeat' (first | (apply Ab.K.ev; exact ev_) | (apply Ab.K.aops; first | (apply Xg.s; constructor) | (apply Ab.S.guardU; (case hd => rfl); (case hb => (exact ev_; done))) | apply Ab.S.guardG) | (apply Ab.K.aop; first | (apply Ab.O.build1 (M); (case hx => exact ev_); (case hv => exact ⟨rfl, rfl⟩); (case hz => exact ⟨rfl, rfl⟩); (case hid => exact free_)) | (apply Og.s; constructor)) | (apply Ab.K.gk; first | (apply Xg.s; constructor) | (apply Ab.gY; case hw => assumption) | (apply Ab.gNT; case hw => assumption) | (apply Ab.gNF; case hw => assumption) | ((first | apply Ab.gD | apply Ab.gDN); all_goals (intro _ _; (first | contradiction | (exfalso; omega) | skip)))) | (apply Ab.K.awp; first | (apply Xg.s; constructor)) | (apply Ab.K.at_; exact at_) | (apply Ab.K.acall; first | assumption | fail) | (apply Ab.Rg.mk; omega) | (apply Ab.Lt.mk; first | decide | (simp; done) | (simp; omega) | fail) | (apply Ab.Get.mk; first | rfl | (rw [Int.toNat_natCast]; exact gU)) | (apply Ab.Nm.mk; first | exact nrm_) | (apply Xg.s; constructor) | (apply Ab.asm; assumption) | rfl | infer_instance | decide))
      have G1 := G.set (id := M) (b := .cells true 1 [.int .i64 i]) (fun q e => by have := hlt q e; omega)
      (apply Ab.O.appendL (M + 1); (case hx => exact ev_); (case hL => exact Ab.Gr.lat (by assumption)); (case hy => exact ev_); (case hs => exact srcAll At.hit rfl); (case hk => rfl); (case hm => decide); (case hl => first | rfl | simp); (case hz => decide); (case hb => omega); (case hfree => exact free_))
      intro s3 g
      have T2 := G1.topN g T.new
      have F2 := G1.frN g (Fr.new (hT.free (by omega)) F) (hT.mono (by omega))
      have au' := Gr.off g (At.miss (by omega) au) (fun q e => by have := hge q e; omega) (by omega)
      rw [show ints r ++ [.int .i64 i] = ints (r ++ [(i : Int)]) from by rw [ints_append]; rfl] at g
      have G2 : Gr s3 1 M0 _ _ (k + 1) _ := Gr.app g (by rw [ints_length, List.length_append, hk, Nat.mul_one]; rfl) (by omega)
      (repeat' (first | (apply Ab.K.ev; exact ev_) | (apply Ab.K.aops; first | (apply Xg.s; constructor) | (apply Ab.S.guardU; (case hd => rfl); (case hb => (exact ev_; done))) | apply Ab.S.guardG) | (apply Ab.K.aop; first | (apply Og.s; constructor)) | (apply Ab.K.gk; first | (apply Xg.s; constructor) | (apply Ab.gY; case hw => assumption) | (apply Ab.gNT; case hw => assumption) | (apply Ab.gNF; case hw => assumption) | ((first | apply Ab.gD | apply Ab.gDN); all_goals (intro _ _; (first | contradiction | (exfalso; omega) | skip)))) | (apply Ab.K.awp; first | (apply Xg.s; constructor)) | (apply Ab.K.at_; exact at_) | (apply Ab.K.acall; first | assumption | fail) | (apply Ab.Rg.mk; omega) | (apply Ab.Lt.mk; first | decide | (simp; done) | (simp; omega) | fail) | (apply Ab.Get.mk; first | rfl | (rw [Int.toNat_natCast]; exact gU)) | (apply Ab.Nm.mk; first | exact nrm_) | (apply Xg.s; constructor) | (apply Ab.asm; assumption) | rfl | infer_instance | decide))
      exact X.roundN (65 - (i + 1)) (by omega) ⟨i + 1, k + 1, M + 2, _, _, r ++ [(i : Int)], by exact ev_, by exact ev_, by exact ev_, by exact ev_, au', G2, by rw [List.length_append, hk]; rfl, hr1, F2, T2, by omega, by omega, rfl⟩
  · obtain rfl : i = 65 := by omega
    have hs : r = side l a := hr
    have hpos : k ≠ 0 := fun e => by
      have hm := (side_mem (Good.node hg) ha (x := a)).2 (.refl a)
      rw [← hs, List.length_eq_zero_iff.1 (hk.symm.trans e)] at hm; cases hm
    obtain ⟨q, rfl, rfl, aq, _, hq⟩ := G.own hpos
    rw [← hs, ← hk]
    (repeat' (first | (apply Ab.K.ev; exact ev_) | (apply Ab.K.aops; first | (apply Xg.s; constructor) | (apply Ab.S.guardU; (case hd => rfl); (case hb => (exact ev_; done))) | apply Ab.S.guardG) | (apply Ab.K.aop; first | (apply Og.s; constructor)) | (apply Ab.K.gk; first | (apply Xg.s; constructor) | (apply Ab.gY; case hw => assumption) | (apply Ab.gNT; case hw => assumption) | (apply Ab.gNF; case hw => assumption) | ((first | apply Ab.gD | apply Ab.gDN); all_goals (intro _ _; (first | contradiction | (exfalso; omega) | skip)))) | (apply Ab.K.awp; first | (apply Xg.s; constructor)) | (apply Ab.K.at_; exact at_) | (apply Ab.K.acall; first | assumption | fail) | (apply Ab.Rg.mk; omega) | (apply Ab.Lt.mk; first | decide | (simp; done) | (simp; omega) | fail) | (apply Ab.Get.mk; first | rfl | (rw [Int.toNat_natCast]; exact gU)) | (apply Ab.Nm.mk; first | exact nrm_) | (apply Xg.s; constructor) | (apply Ab.asm; assumption) | rfl | infer_instance | decide))
    apply RetQ.retR (renL (dn [(o, q, .cells true 1 (ints r))]))
    (case he => exact evr_)
    (case hg => rfl)
    · simp [resV, mpR, mpB, mp1, mpA, renL_hit]
    · exact KeepsR.new1 ho (hT.none (by omega)) F aq (ints_pl _) rfl
    · simp
end Go.Proofs.Ytdbnpghckgmaoaa

/- trees: the program's ways. -/
namespace Go.Proofs.Ytdbnpghckgmaoaa
set_option linter.unusedVariables false
set_option linter.unusedSimpArgs false
set_option linter.unusedSectionVars false
open Go.RowKit Ab TP
attribute [local irreducible] AOps AOpsD AOp AWp put nargs AHeap.set At Free ACall ACallE thenQ blockQ roundQ RetQ RetE Src bsn
/-- What the program's way answers. -/
noncomputable def wOk (l : List E) (a b : Int) : Bool := gfB l && (decide (TP.Node a) && decide (TP.Node b))
theorem wOk_iff {l : List E} {a b : Int} : wOk l a b = true ↔ TP.Good l ∧ Forest l ∧ TP.Node a ∧ TP.Node b := by
  unfold wOk gfB
  simp only [Bool.and_eq_true, decide_eq_true_iff, foB_iff, and_assoc]
theorem way11_no {s : AHeap} {A : Option Addr} {n c : Nat} {on : Option Nat} {l : List E} {a b : Int} (h : EA s (.slice A n c) on l) (hn : n ≤ 512) (hno : wOk l a b = false) :
    ACall Try.prog 34 [.slice A n c, .int .i64 a, .int .i64 b] s (.tuple #[.slice none 0 0, .int .i64 1]) s := by
  have c28 := forest28 h hn
  have na : ACall Try.prog 20 [.int .i64 a] s (.bool (decide (TP.Node a))) s := node29
  have nb : ACall Try.prog 20 [.int .i64 b] s (.bool (decide (TP.Node b))) s := node29

  cases hgf : gfB l
  · rw [hgf] at c28
    (refine ACall.make Try.func34 rfl (by kernel_rfl) (by decide) rfl (fun N hN => ?_); have hT : Top N _ := hN; (repeat' (first | (apply Ab.K.ev; exact ev_) | (apply Ab.K.aops; first | (apply Xg.s; constructor) | (apply Ab.S.guardU; (case hd => rfl); (case hb => (exact ev_; done))) | apply Ab.S.guardG) | (apply Ab.K.aop; first | (apply Og.s; constructor)) | (apply Ab.K.gk; first | (apply Xg.s; constructor) | (apply Ab.gY; case hw => assumption) | (apply Ab.gNT; case hw => assumption) | (apply Ab.gNF; case hw => assumption) | ((first | apply Ab.gD | apply Ab.gDN); all_goals (intro _ _; (first | contradiction | (exfalso; omega) | skip)))) | (apply Ab.K.awp; first | (apply Xg.s; constructor)) | (apply Ab.K.at_; exact at_) | (apply Ab.K.acall; first | assumption | first | exact c28 | exact na | exact nb) | (apply Ab.Rg.mk; omega) | (apply Ab.Lt.mk; first | decide | (simp; done) | (simp; omega) | fail) | (apply Ab.Get.mk; first | rfl | fail) | (apply Ab.Nm.mk; first | exact nrm_) | (apply Xg.s; constructor) | (apply Ab.asm; assumption) | rfl | infer_instance | decide)); (all_goals ((first | apply RetQ.ret | apply RetQ.normal); (case he => exact evr_); (case hg => rfl))); (all_goals first | rfl | (apply Keeps.fr; (case h => exact fr_); (case hv => exact plR.nm rfl)) | fail))
  · rw [hgf] at c28
    by_cases ha : TP.Node a
    · rw [decide_eq_true ha] at na
      by_cases hb : TP.Node b
      · exfalso; rw [wOk, hgf, decide_eq_true ha, decide_eq_true hb] at hno; cases hno
      · rw [decide_eq_false hb] at nb
        (refine ACall.make Try.func34 rfl (by kernel_rfl) (by decide) rfl (fun N hN => ?_); have hT : Top N _ := hN; (repeat' (first | (apply Ab.K.ev; exact ev_) | (apply Ab.K.aops; first | (apply Xg.s; constructor) | (apply Ab.S.guardU; (case hd => rfl); (case hb => (exact ev_; done))) | apply Ab.S.guardG) | (apply Ab.K.aop; first | (apply Og.s; constructor)) | (apply Ab.K.gk; first | (apply Xg.s; constructor) | (apply Ab.gY; case hw => assumption) | (apply Ab.gNT; case hw => assumption) | (apply Ab.gNF; case hw => assumption) | ((first | apply Ab.gD | apply Ab.gDN); all_goals (intro _ _; (first | contradiction | (exfalso; omega) | skip)))) | (apply Ab.K.awp; first | (apply Xg.s; constructor)) | (apply Ab.K.at_; exact at_) | (apply Ab.K.acall; first | assumption | first | exact c28 | exact na | exact nb) | (apply Ab.Rg.mk; omega) | (apply Ab.Lt.mk; first | decide | (simp; done) | (simp; omega) | fail) | (apply Ab.Get.mk; first | rfl | fail) | (apply Ab.Nm.mk; first | exact nrm_) | (apply Xg.s; constructor) | (apply Ab.asm; assumption) | rfl | infer_instance | decide)); (all_goals ((first | apply RetQ.ret | apply RetQ.normal); (case he => exact evr_); (case hg => rfl))); (all_goals first | rfl | (apply Keeps.fr; (case h => exact fr_); (case hv => exact plR.nm rfl)) | fail))
    · rw [decide_eq_false ha] at na
      (refine ACall.make Try.func34 rfl (by kernel_rfl) (by decide) rfl (fun N hN => ?_); have hT : Top N _ := hN; (repeat' (first | (apply Ab.K.ev; exact ev_) | (apply Ab.K.aops; first | (apply Xg.s; constructor) | (apply Ab.S.guardU; (case hd => rfl); (case hb => (exact ev_; done))) | apply Ab.S.guardG) | (apply Ab.K.aop; first | (apply Og.s; constructor)) | (apply Ab.K.gk; first | (apply Xg.s; constructor) | (apply Ab.gY; case hw => assumption) | (apply Ab.gNT; case hw => assumption) | (apply Ab.gNF; case hw => assumption) | ((first | apply Ab.gD | apply Ab.gDN); all_goals (intro _ _; (first | contradiction | (exfalso; omega) | skip)))) | (apply Ab.K.awp; first | (apply Xg.s; constructor)) | (apply Ab.K.at_; exact at_) | (apply Ab.K.acall; first | assumption | first | exact c28 | exact na | exact nb) | (apply Ab.Rg.mk; omega) | (apply Ab.Lt.mk; first | decide | (simp; done) | (simp; omega) | fail) | (apply Ab.Get.mk; first | rfl | fail) | (apply Ab.Nm.mk; first | exact nrm_) | (apply Xg.s; constructor) | (apply Ab.asm; assumption) | rfl | infer_instance | decide)); (all_goals ((first | apply RetQ.ret | apply RetQ.normal); (case he => exact evr_); (case hg => rfl))); (all_goals first | rfl | (apply Keeps.fr; (case h => exact fr_); (case hv => exact plR.nm rfl)) | fail))
theorem ups_next {U : List Int} {root a : Int} {p : List Int} (h : Ups U root a p) : ∀ {k : Nat} {x : Int}, p[k]? = some x → (x = root ∧ k + 1 = p.length) ∨ (x ≠ root ∧ p[k + 1]? = some (JP.g U x)) := by
  induction h with
  | one =>
    intro k x hx
    cases k with
    | zero => simp at hx; exact .inl ⟨hx.symm, rfl⟩
    | succ k => simp at hx
  | cons hn r ih =>
    rename_i a p
    intro k x hx
    cases k with
    | zero =>
      simp at hx; subst hx
      refine .inr ⟨hn, ?_⟩
      cases r <;> rfl
    | succ k =>
      rw [List.getElem?_cons_succ] at hx
      rcases ih hx with ⟨h1, h2⟩ | ⟨h1, h2⟩
      · exact .inl ⟨h1, by rw [List.length_cons]; omega⟩
      · exact .inr ⟨h1, by rw [List.getElem?_cons_succ]; exact h2⟩
theorem way11_none {s : AHeap} {A : Option Addr} {n c : Nat} {on : Option Nat} {l : List E} {a b : Int} (h : EA s (.slice A n c) on l) (hn : n ≤ 512) (hok : wOk l a b = true) (hc : ¬ Conn l a b) :
    ACall Try.prog 34 [.slice A n c, .int .i64 a, .int .i64 b] s (.tuple #[.slice none 0 0, .int .i64 9]) s := by
  obtain ⟨hg, hf, ha, hb⟩ := wOk_iff.1 hok
  have c28 := forest28 h hn
  have na : ACall Try.prog 20 [.int .i64 a] s (.bool (decide (TP.Node a))) s := node29
  have nb : ACall Try.prog 20 [.int .i64 b] s (.bool (decide (TP.Node b))) s := node29
  rw [show gfB l = true from by simp [gfB, hg, foB_iff.2 hf]] at c28
  rw [decide_eq_true ha] at na
  rw [decide_eq_true hb] at nb
  have c30 := ups30 h hg hb hn
  have ha' : 1 ≤ a ∧ a ≤ 64 := ha
  refine ACall.make Try.func34 rfl (by kernel_rfl) (by decide) rfl (fun N hN => ?_)
  have hT : Top N s := hN

  (repeat' (first | (apply Ab.K.ev; exact ev_) | (apply Ab.K.aops; first | (apply Xg.s; constructor) | (apply Ab.S.guardU; (case hd => rfl); (case hb => (exact ev_; done))) | apply Ab.S.guardG) | (apply Ab.K.aop; first | (apply Ab.O.callFE; (case ha => exact evs_); (case hc => exact c30)) | (apply Og.s; constructor)) | (apply Ab.K.gk; first | (apply Xg.s; constructor) | (apply Ab.gY; case hw => assumption) | (apply Ab.gNT; case hw => assumption) | (apply Ab.gNF; case hw => assumption) | ((first | apply Ab.gD | apply Ab.gDN); all_goals (intro _ _; (first | contradiction | (exfalso; omega) | skip)))) | (apply Ab.K.awp; first | (apply Xg.s; constructor)) | (apply Ab.K.at_; exact at_) | (apply Ab.K.acall; first | assumption | first | exact c28 | exact na | exact nb) | (apply Ab.Rg.mk; omega) | (apply Ab.Lt.mk; first | decide | (simp; done) | (simp; omega) | fail) | (apply Ab.Get.mk; first | rfl | fail) | (apply Ab.Nm.mk; first | exact nrm_) | (apply Xg.s; constructor) | (apply Ab.asm; assumption) | rfl | infer_instance | decide))

  rintro v s2 ⟨U, Q, u, rfl, hu, rfl, B⟩
  have hinU : JP.In U a := ⟨by omega, by rw [B.len]; omega⟩
  have gU := ints_at hinU
  have hz : JP.g U a = 0 := by
    by_cases h0 : JP.g U a = 0
    · exact h0
    · exact absurd ((B.done).1 ((B.mem a (by omega) (by omega)).1 h0)).symm hc
  rw [hz] at gU
  have F : Fr (s.set u (.cells true 1 (ints U))) s [] := Fr.new (free_of hu) (Fr.refl _ _)
  (repeat' (first | (apply Ab.K.ev; exact ev_) | (apply Ab.K.aops; first | (apply Xg.s; constructor) | (apply Ab.S.guardU; (case hd => rfl); (case hb => (exact ev_; done))) | apply Ab.S.guardG) | (apply Ab.K.aop; first | (apply Og.s; constructor)) | (apply Ab.K.gk; first | (apply Xg.s; constructor) | (apply Ab.gY; case hw => assumption) | (apply Ab.gNT; case hw => assumption) | (apply Ab.gNF; case hw => assumption) | ((first | apply Ab.gD | apply Ab.gDN); all_goals (intro _ _; (first | contradiction | (exfalso; omega) | skip)))) | (apply Ab.K.awp; first | (apply Xg.s; constructor)) | (apply Ab.K.at_; exact at_) | (apply Ab.K.acall; first | assumption | fail) | (apply Ab.Rg.mk; omega) | (apply Ab.Lt.mk; first | decide | (simp; done) | (simp; omega) | fail) | (apply Ab.Get.mk; first | rfl | first | exact gU | (rw [Nat.mul_one]; exact gU)) | (apply Ab.Nm.mk; first | exact nrm_) | (apply Xg.s; constructor) | (apply Ab.asm; assumption) | rfl | infer_instance | decide))
  all_goals ((first | apply RetQ.ret | apply RetQ.normal); (case he => exact evr_); (case hg => rfl))
  all_goals first | rfl | exact Keeps.fr F (plR.nm rfl)
set_option maxHeartbeats 4000000 in
theorem way11_yes {s : AHeap} {A : Option Addr} {n c : Nat} {on : Option Nat} {l : List E} {a b : Int} {p : List Int} {o : Nat} (h : EA s (.slice A n c) on l) (hn : n ≤ 512) (hok : wOk l a b = true) (hw : TP.Way l a b p) (ho : s o = none) :
    ACall Try.prog 34 [.slice A n c, .int .i64 a, .int .i64 b] s (.tuple #[.slice (some ⟨o, 0, none⟩) p.length p.length, .int .i64 0]) (s.set o (.cells true 1 (ints p))) := by
  obtain ⟨hg, hf, ha, hb⟩ := wOk_iff.1 hok
  have c28 := forest28 h hn
  have na : ACall Try.prog 20 [.int .i64 a] s (.bool (decide (TP.Node a))) s := node29
  have nb : ACall Try.prog 20 [.int .i64 b] s (.bool (decide (TP.Node b))) s := node29
  rw [show gfB l = true from by simp [gfB, hg, foB_iff.2 hf]] at c28
  rw [decide_eq_true ha] at na
  rw [decide_eq_true hb] at nb
  have c30 := ups30 h hg hb hn
  have ha' : 1 ≤ a ∧ a ≤ 64 := ha
  have hcut := hf.cut hg.2.nodup
  have hnodes := hw.nodes (Good.node hg) ha
  have hp64 := hw.short (Good.node hg) ha
  refine ACall.make Try.func34 rfl (by kernel_rfl) (by decide) rfl (fun N hN => ?_)
  have hT : Top N s := hN

  (repeat' (first | (apply Ab.K.ev; exact ev_) | (apply Ab.K.aops; first | (apply Xg.s; constructor) | (apply Ab.S.guardU; (case hd => rfl); (case hb => (exact ev_; done))) | apply Ab.S.guardG) | (apply Ab.K.aop; first | (apply Ab.O.callFE; (case ha => exact evs_); (case hc => exact c30)) | (apply Og.s; constructor)) | (apply Ab.K.gk; first | (apply Xg.s; constructor) | (apply Ab.gY; case hw => assumption) | (apply Ab.gNT; case hw => assumption) | (apply Ab.gNF; case hw => assumption) | ((first | apply Ab.gD | apply Ab.gDN); all_goals (intro _ _; (first | contradiction | (exfalso; omega) | skip)))) | (apply Ab.K.awp; first | (apply Xg.s; constructor)) | (apply Ab.K.at_; exact at_) | (apply Ab.K.acall; first | assumption | first | exact c28 | exact na | exact nb) | (apply Ab.Rg.mk; omega) | (apply Ab.Lt.mk; first | decide | (simp; done) | (simp; omega) | fail) | (apply Ab.Get.mk; first | rfl | first | exact gU | (rw [Nat.mul_one]; exact gU)) | (apply Ab.Nm.mk; first | exact nrm_) | (apply Xg.s; constructor) | (apply Ab.asm; assumption) | rfl | infer_instance | decide))
  rintro v s2 ⟨U, Q, u, rfl, hu, rfl, B⟩
  clear c28 c30 na nb
  have hinU : JP.In U a := ⟨by omega, by rw [B.len]; omega⟩
  have gU := ints_at hinU
  have haQ : a ∈ Q := (B.done).2 hw.conn.symm
  have hz : JP.g U a ≠ 0 := (B.mem a (by omega) (by omega)).2 haQ
  obtain ⟨k0, hk0⟩ := List.mem_iff_getElem?.1 haQ
  obtain ⟨p', hup, hw', _⟩ := B.ups hk0
  obtain rfl : p' = p := hw.uniq hcut hw'
  obtain ⟨M0, hM0, hM1⟩ : ∃ M0, N ≤ M0 ∧ u < M0 := ⟨max N (u + 1), by omega, by omega⟩
  have T0 : Top M0 (s.set u (.cells true 1 (ints U))) := (hT.mono hM0).set hM1
  have F0 : Fr (s.set u (.cells true 1 (ints U))) s [] := Fr.new (free_of hu) (Fr.refl _ _)
  have hp0 := hw'.first
  have hpl : 1 ≤ p'.length := by obtain ⟨t, ht⟩ := hw'.head; rw [ht]; simp

  (repeat' (first | (apply Ab.K.ev; exact ev_) | (apply Ab.K.aops; first | (apply Xg.s; constructor) | (apply Ab.S.guardU; (case hd => rfl); (case hb => (exact ev_; done))) | apply Ab.S.guardG) | (apply Ab.K.aop; first | (apply Ab.O.build1 M0; (case hx => exact ev_); (case hv => exact ⟨rfl, rfl⟩); (case hz => exact ⟨rfl, rfl⟩); (case hid => exact T0.free (Nat.le_refl _))) | (apply Og.s; constructor)) | (apply Ab.K.gk; first | (apply Xg.s; constructor) | (apply Ab.gY; case hw => assumption) | (apply Ab.gNT; case hw => assumption) | (apply Ab.gNF; case hw => assumption) | ((first | apply Ab.gD | apply Ab.gDN); all_goals (intro _ _; (first | contradiction | (exfalso; omega) | skip)))) | (apply Ab.K.awp; first | (apply Xg.s; constructor)) | (apply Ab.K.at_; exact at_) | (apply Ab.K.acall; first | assumption | fail) | (apply Ab.Rg.mk; omega) | (apply Ab.Lt.mk; first | decide | (simp; done) | (simp; omega) | fail) | (apply Ab.Get.mk; first | rfl | first | exact gU | (rw [Nat.mul_one]; exact gU)) | (apply Ab.Nm.mk; first | exact nrm_) | (apply Xg.s; constructor) | (apply Ab.asm; assumption) | rfl | infer_instance | decide))
  refine AWp.loop (fun kk tm s1 => ∃ (k q M : Nat) (x : Int), Ev tm (.tmp 1) (.int .i64 x) ∧ Ev tm (.tmp 2) (.int .i64 b) ∧ Ev tm (.tmp 8) (.slice (some ⟨u, 0, none⟩) 65 65) ∧ Ev tm (.tmp 9) (.slice (some ⟨q, 0, none⟩) (k + 1) (k + 1)) ∧ At s1 u (.cells true 1 (ints U)) ∧ At s1 q (.cells true 1 (ints (p'.take (k + 1)))) ∧ p'[k]? = some x ∧ Fr s1 s [] ∧ u ≠ q ∧ M0 ≤ q ∧ Top M s1 ∧ kk = p'.length - k) p'.length ?_ ?_
  · refine ⟨0, M0, M0 + 1, a, by exact ev_, by exact ev_, by exact ev_, by exact ev_, At.miss (by omega) At.hit, ?_, hp0, Fr.new (hT.free hM0) F0, by omega, Nat.le_refl _, T0.new, rfl⟩
    rw [ints_take hp0]; exact At.hit
  rintro kk tm s1 ⟨k, q, M, x, e1, e2, e8, e9, a8, a9, hx, F, huq, hq, T, hkk⟩
  have huM := T.lt a8
  have hqM := T.lt a9
  have hkl := (List.getElem?_eq_some_iff.1 hx).1
  have hcl : (ints (p'.take (k + 1))).length = k + 1 := by rw [ints_length, List.length_take]; omega
  rcases ups_next hup hx with ⟨rfl, hlast⟩ | ⟨hne, hnext⟩
  · rw [hlast, List.take_length] at a9
    rw [hlast] at e9
    (repeat' (first | (apply Ab.K.ev; exact ev_) | (apply Ab.K.aops; first | (apply Xg.s; constructor) | (apply Ab.S.guardU; (case hd => rfl); (case hb => (exact ev_; done))) | apply Ab.S.guardG) | (apply Ab.K.aop; first | (apply Og.s; constructor)) | (apply Ab.K.gk; first | (apply Xg.s; constructor) | (apply Ab.gY; case hw => assumption) | (apply Ab.gNT; case hw => assumption) | (apply Ab.gNF; case hw => assumption) | ((first | apply Ab.gD | apply Ab.gDN); all_goals (intro _ _; (first | contradiction | (exfalso; omega) | skip)))) | (apply Ab.K.awp; first | (apply Xg.s; constructor)) | (apply Ab.K.at_; exact at_) | (apply Ab.K.acall; first | assumption | fail) | (apply Ab.Rg.mk; omega) | (apply Ab.Lt.mk; first | decide | (simp; done) | (simp; omega) | fail) | (apply Ab.Get.mk; first | rfl | first | exact gU | (rw [Nat.mul_one]; exact gU)) | (apply Ab.Nm.mk; first | exact nrm_) | (apply Xg.s; constructor) | (apply Ab.asm; assumption) | rfl | infer_instance | decide))
    apply RetQ.retR (renL (dn [(o, q, .cells true 1 (ints p'))]))
    (case he => exact evr_)
    (case hg => rfl)
    · simp [resV, mpR, mpB, mp1, mpA, renL_hit]
    · exact KeepsR.new1 ho (hT.none (by omega)) F a9 (ints_pl _) (by simp [nmR, nmB, nm1, nmA])
    · simp
  · have hxn : 1 ≤ x ∧ x ≤ 64 := hnodes x (List.mem_of_getElem? hx)
    have gx := ints_at (l := U) (i := x) ⟨by omega, by rw [B.len]; omega⟩


    (repeat' (first | (apply Ab.K.ev; exact ev_) | (apply Ab.K.aops; first | (apply Xg.s; constructor) | (apply Ab.S.guardU; (case hd => rfl); (case hb => (exact ev_; done))) | apply Ab.S.guardG) | (apply Ab.K.aop; first | (apply Ab.O.build1 (M); (case hx => exact ev_); (case hv => exact ⟨rfl, rfl⟩); (case hz => exact ⟨rfl, rfl⟩); (case hid => exact free_)) | (apply Og.s; constructor)) | (apply Ab.K.gk; first | (apply Xg.s; constructor) | (apply Ab.gY; case hw => assumption) | (apply Ab.gNT; case hw => assumption) | (apply Ab.gNF; case hw => assumption) | ((first | apply Ab.gD | apply Ab.gDN); all_goals (intro _ _; (first | contradiction | (exfalso; omega) | skip)))) | (apply Ab.K.awp; first | (apply Xg.s; constructor)) | (apply Ab.K.at_; exact at_) | (apply Ab.K.acall; first | assumption | fail) | (apply Ab.Rg.mk; omega) | (apply Ab.Lt.mk; first | decide | (simp; done) | (simp; omega) | fail) | (apply Ab.Get.mk; first | rfl | first | exact gx | (rw [Nat.mul_one]; exact gx)) | (apply Ab.Nm.mk; first | exact nrm_) | (apply Xg.s; constructor) | (apply Ab.asm; assumption) | rfl | infer_instance | decide))
    (apply Ab.O.appendL (M + 1); (case hx => exact ev_); (case hL => first | exact LAt.nil | exact LAt.blk (by exact at_) (by first | rfl | exact hcl | (rw [Nat.mul_one]; exact hcl) | simp [ints_length])); (case hy => exact ev_); (case hs => first | exact Src.sl (by exact at_) (by decide) (by decide) rfl | exact srcAll (by exact at_) (by first | rfl | exact hcl | (rw [Nat.mul_one]; exact hcl) | simp [ints_length])); (case hk => rfl); (case hm => decide); (case hl => first | rfl | first | rfl | exact hcl | (rw [Nat.mul_one]; exact hcl) | simp [ints_length]); (case hz => decide); (case hb => omega); (case hfree => exact free_))
    intro s3 g
    have out : ∀ j, j < M → q ≠ j → s3 j = s1 j := fun j hj hne => by rw [g.off _ (fun e => hne (Option.some.inj e)) (by omega), AHeap.set_other _ _ (by omega)]
    have T2 := g.topN T.new (fun q' e => by have := Option.some.inj e; omega)
    have F2 := g.fr (Fr.new (free_of (none_of T F _ (Nat.le_refl _))) F) (fun q' e => .inl (hT.none (by have := Option.some.inj e; omega)))
    have a8' : At s3 u (.cells true 1 (ints U)) := At.var (by rw [out _ huM (fun e => huq e.symm)]; exact a8.eq)
    have gh := g.hit
    rw [← ints_take hnext] at gh
    (repeat' (first | (apply Ab.K.ev; exact ev_) | (apply Ab.K.aops; first | (apply Xg.s; constructor) | (apply Ab.S.guardU; (case hd => rfl); (case hb => (exact ev_; done))) | apply Ab.S.guardG) | (apply Ab.K.aop; first | (apply Og.s; constructor)) | (apply Ab.K.gk; first | (apply Xg.s; constructor) | (apply Ab.gY; case hw => assumption) | (apply Ab.gNT; case hw => assumption) | (apply Ab.gNF; case hw => assumption) | ((first | apply Ab.gD | apply Ab.gDN); all_goals (intro _ _; (first | contradiction | (exfalso; omega) | skip)))) | (apply Ab.K.awp; first | (apply Xg.s; constructor)) | (apply Ab.K.at_; exact at_) | (apply Ab.K.acall; first | assumption | fail) | (apply Ab.Rg.mk; omega) | (apply Ab.Lt.mk; first | decide | (simp; done) | (simp; omega) | fail) | (apply Ab.Get.mk; first | rfl | first | exact gx | (rw [Nat.mul_one]; exact gx)) | (apply Ab.Nm.mk; first | exact nrm_) | (apply Xg.s; constructor) | (apply Ab.asm; assumption) | rfl | infer_instance | decide))
    exact X.roundN (p'.length - (k + 1)) (by omega) ⟨k + 1, M + 1, M + 2, JP.g U x, by exact ev_, by exact ev_, by exact ev_, by exact ev_, a8', gh, hnext, F2, by omega, by omega, T2, rfl⟩
end Go.Proofs.Ytdbnpghckgmaoaa

/- trees: what is left of edges without those of a kind. -/
namespace Go.Proofs.Ytdbnpghckgmaoaa
set_option linter.unusedVariables false
set_option linter.unusedSimpArgs false
set_option linter.unusedSectionVars false
open Go.RowKit Ab TP
attribute [local irreducible] AOps AOpsD AOp AWp put nargs AHeap.set At Free ACall ACallE thenQ blockQ roundQ RetQ RetE Src bsn

def keepF (b : E → Bool) (l : List E) : List E := l.filter fun e => !b e
theorem keepF_snoc {b : E → Bool} {l : List E} {e : E} : keepF b (l ++ [e]) = keepF b l ++ if b e = true then [] else [e] := by
  unfold keepF
  rw [List.filter_append]
  cases h : b e <;> simp [h]
theorem keepF_all {b : E → Bool} {l : List E} (h : ∀ e ∈ l, b e = false) : keepF b l = l := List.filter_eq_self.2 fun e he => by rw [h e he]; rfl
theorem set_id {s : AHeap} {q : Nat} {x : ABlk} (h : At s q x) : s.set q x = s := by
  funext i
  by_cases hi : i = q
  · subst hi; rw [AHeap.set_same]; exact h.eq.symm
  · rw [AHeap.set_other _ _ hi]
theorem splice_drop {c l : List Value} {off m : Nat} (h : off + l.length ≤ c.length) (hm : off + l.length ≤ m) : (splice c off l).drop m = c.drop m := by
  rw [O.splice_set h, List.drop_append, List.drop_of_length_le (by rw [List.length_append, List.length_take]; omega), List.nil_append, List.drop_drop]
  congr 1
  rw [List.length_append, List.length_take]; omega
theorem splice_take_le {c l : List Value} {off m : Nat} (h : off + l.length ≤ c.length) (hm : m ≤ off) : (splice c off l).take m = c.take m := by
  rw [O.splice_set h, List.append_assoc, List.take_append_of_le_length (by rw [List.length_take]; omega), List.take_take, Nat.min_eq_left hm]
theorem zrep_pl {n : Nat} {z : List Value} (h : z.all pl1 = true) : (zrep n z).all pl1 = true := by
  rw [List.all_eq_true] at h ⊢
  intro x hx
  obtain ⟨y, hy, hxy⟩ := List.mem_flatten.1 hx
  obtain rfl := List.eq_of_mem_replicate hy
  exact h x hxy
theorem deleteF31n {s : AHeap} {A : Option Addr} {n c : Nat} {on : Option Nat} {l : List E} {fn : FuncId} {caps : Array Value} {b : E → Bool} (h : EA s (.slice A n c) on l) (hn : n ≤ 512) (hb : ∀ e ∈ l, b e = false) (hF : ∀ e, e ∈ l → ACall Try.prog fn (.agg (ec e).toArray :: caps.toList) s (.bool (b e)) s) :
    ACall Try.prog 37 [.slice A n c, .func (.func fn) #[] caps] s (.slice A n c) s := by
  have c38 : ACall Try.prog 53 [.slice A n c, .func (.func fn) #[] caps] s (.int .i64 (-1)) s := (index38p h hF hn).toCall fun v s' hh => by
    obtain ⟨rfl, ⟨i, e, _, he, hbe, _⟩ | ⟨_, rfl⟩⟩ := hh
    · rw [hb e (List.mem_of_getElem? he)] at hbe; cases hbe
    · exact ⟨rfl, rfl⟩
  have hs : nmR (fun i => (s i).isSome = true) (.slice A n c) := by
    cases h with
    | nil => trivial
    | blk h _ _ => simp [nmR, nmB, nm1, nmA, h.eq]
  refine ACall.make Try.func37 rfl (by kernel_rfl) (by decide) rfl (fun N hN => ?_)
  (repeat' (first | (apply Ab.K.ev; exact ev_) | (apply Ab.K.aops; first | (apply Xg.s; constructor) | (apply Ab.S.guardU; (case hd => rfl); (case hb => (exact ev_; done))) | apply Ab.S.guardG) | (apply Ab.K.aop; first | (apply Og.s; constructor) | (apply Ab.O.clear0; (case hx => exact ev_)) | (apply Ab.O.clearG; (case hz => exact ⟨rfl, rfl⟩))) | (apply Ab.K.gk; first | (apply Xg.s; constructor) | (apply Ab.gY; case hw => assumption) | (apply Ab.gNT; case hw => assumption) | (apply Ab.gNF; case hw => assumption) | ((first | apply Ab.gD | apply Ab.gDN); all_goals (intro _ _; (first | contradiction | (exfalso; omega) | skip)))) | (apply Ab.K.awp; first | (apply Xg.s; constructor)) | (apply Ab.K.at_; exact at_) | (apply Ab.K.acall; first | assumption | exact c38) | (apply Ab.Rg.mk; omega) | (apply Ab.Lt.mk; first | decide | (simp; done) | (simp; omega) | fail) | (apply Ab.Get.mk; first | rfl | fail) | (apply Ab.Nm.mk; first | exact nrm_) | (apply Xg.s; constructor) | (apply Ab.asm; assumption) | rfl | infer_instance | decide))
  all_goals ((first | apply RetQ.ret | apply RetQ.normal); (case he => exact evr_); (case hg => rfl))
  all_goals first | rfl | exact Keeps.self hs
set_option maxHeartbeats 4000000 in
theorem deleteF31 {s : AHeap} {q n : Nat} {l : List E} {fn : FuncId} {caps : Array Value} {b : E → Bool} (hq : At s q (.cells true 3 (ecs l))) (hnl : n = l.length) (hn : n ≤ 512) (hF : ∀ s1 e, Fr s1 s [q] → e ∈ l → ACall Try.prog fn (.agg (ec e).toArray :: caps.toList) s1 (.bool (b e)) s1) :
    ACallE Try.prog 37 [.slice (some ⟨q, 0, none⟩) n n, .func (.func fn) #[] caps] s (fun v s' => ∃ cs, v = .slice (some ⟨q, 0, none⟩) (keepF b l).length n ∧ s' = s.set q (.cells true 3 cs) ∧ cs.length = n * 3 ∧ cs.all pl1 = true ∧ cs.take ((keepF b l).length * 3) = ecs (keepF b l)) := by
  subst hnl
  have c38 := index38p (b := b) (EA.own hq) (fun e he => hF s e (Fr.refl _ _) he) hn
  refine ACallE.make Try.func37 rfl (by kernel_rfl) (by decide) rfl (fun N hN => ?_)
  have hT : Top N s := hN
  have hqN := hT.lt hq
  (repeat' (first | (apply Ab.K.ev; exact ev_) | (apply Ab.K.aops; first | (apply Xg.s; constructor) | (apply Ab.S.guardU; (case hd => rfl); (case hb => (exact ev_; done))) | apply Ab.S.guardG) | (apply Ab.K.aop; first | (apply Ab.O.callFE; (case ha => exact evs_); (case hc => exact c38)) | (apply Og.s; constructor) | (apply Ab.O.clear0; (case hx => exact ev_)) | (apply Ab.O.clearG; (case hz => exact ⟨rfl, rfl⟩))) | (apply Ab.K.gk; first | (apply Xg.s; constructor) | (apply Ab.gY; case hw => assumption) | (apply Ab.gNT; case hw => assumption) | (apply Ab.gNF; case hw => assumption) | ((first | apply Ab.gD | apply Ab.gDN); all_goals (intro _ _; (first | contradiction | (exfalso; omega) | skip)))) | (apply Ab.K.awp; first | (apply Xg.s; constructor)) | (apply Ab.K.at_; exact at_) | (apply Ab.K.acall; first | assumption | fail) | (apply Ab.Rg.mk; omega) | (apply Ab.Lt.mk; first | decide | (simp; done) | (simp; omega) | fail) | (apply Ab.Get.mk; first | rfl | fail) | (apply Ab.Nm.mk; first | exact nrm_) | (apply Xg.s; constructor) | (apply Ab.asm; assumption) | rfl | infer_instance | decide))
  rintro v s2 ⟨rfl, ⟨i0, e0, hi0, hl0, hb0, hbf, rfl⟩ | ⟨hall, rfl⟩⟩
  · clear c38
    have hk0 : keepF b (l.take i0) = l.take i0 := keepF_all hbf
    have htk0 : l.take (i0 + 1) = l.take i0 ++ [e0] := by rw [List.take_add_one, hl0]; rfl
    have hk1 : keepF b (l.take (i0 + 1)) = l.take i0 := by rw [htk0, keepF_snoc, if_pos hb0, hk0, List.append_nil]
    (repeat' (first | (apply Ab.K.ev; exact ev_) | (apply Ab.K.aops; first | (apply Xg.s; constructor) | (apply Ab.S.guardU; (case hd => rfl); (case hb => (exact ev_; done))) | apply Ab.S.guardG) | (apply Ab.K.aop; first | (apply Og.s; constructor) | (apply Ab.O.clear0; (case hx => exact ev_)) | (apply Ab.O.clearG; (case hz => exact ⟨rfl, rfl⟩))) | (apply Ab.K.gk; first | (apply Xg.s; constructor) | (apply Ab.gY; case hw => assumption) | (apply Ab.gNT; case hw => assumption) | (apply Ab.gNF; case hw => assumption) | ((first | apply Ab.gD | apply Ab.gDN); all_goals (intro _ _; (first | contradiction | (exfalso; omega) | skip)))) | (apply Ab.K.awp; first | (apply Xg.s; constructor)) | (apply Ab.K.at_; exact at_) | (apply Ab.K.acall; first | assumption | fail) | (apply Ab.Rg.mk; omega) | (apply Ab.Lt.mk; first | decide | (simp; done) | (simp; omega) | fail) | (apply Ab.Get.mk; first | rfl | fail) | (apply Ab.Nm.mk; first | exact nrm_) | (apply Xg.s; constructor) | (apply Ab.asm; assumption) | rfl | infer_instance | decide))
    refine AWp.loop (fun kk tm s1 => ∃ (j M : Nat) (r : List E) (cs : List Value), Ev tm (.tmp 0) (.slice (some ⟨q, 0, none⟩) l.length l.length) ∧ Ev tm (.tmp 1) (.func (.func fn) #[] caps) ∧ Ev tm (.tmp 5) (.int .i64 r.length) ∧ Ev tm (.tmp 6) (.int .i64 j) ∧ At s1 q (.cells true 3 cs) ∧ cs.length = l.length * 3 ∧ cs.all pl1 = true ∧ r = keepF b (l.take j) ∧ cs.take (r.length * 3) = ecs r ∧ cs.drop (j * 3) = ecs (l.drop j) ∧ r.length < j ∧ j ≤ l.length ∧ Fr s1 s2 [q] ∧ Top M s1 ∧ N ≤ M ∧ kk = l.length - j) (l.length - (i0 + 1)) ?_ ?_
    · refine ⟨i0 + 1, N, l.take i0, ecs l, by exact ev_, by exact ev_, by rw [List.length_take, Nat.min_eq_left (by omega)]; exact ev_, by exact ev_, hq, ecs_length l, ecs_pl l, hk1.symm, ?_, ?_, by rw [List.length_take]; omega, by omega, Fr.refl _ _, hT, Nat.le_refl _, rfl⟩
      · rw [List.length_take, Nat.min_eq_left (by omega)]
        conv => lhs; rw [← List.take_append_drop i0 l, ecs_append]
        rw [List.take_left' (by rw [ecs_length, List.length_take, Nat.min_eq_left (by omega)])]
      · conv => lhs; rw [← List.take_append_drop (i0 + 1) l, ecs_append]
        rw [List.drop_left' (by rw [ecs_length, List.length_take, Nat.min_eq_left (by omega)])]
    have hq0 := hq
    clear hq hk0 htk0 hk1 hl0 hb0 hbf
    rintro kk tm s1 ⟨j, M, r, cs, e0, e1, e5, e6, aq, hcl, hcp, hr, hct, hcd, hrj, hj, F, T, hNM, hkk⟩
    have hqM := T.lt aq
    by_cases hjn : j < l.length
    · have hi' : l[j]? = some (l[j]'(by omega)) := List.getElem?_eq_getElem (by omega)
      obtain ⟨e, hee⟩ : ∃ e, e = l[j]'(by omega) := ⟨_, rfl⟩
      rw [← hee] at hi'
      have hdj : l.drop j = e :: l.drop (j + 1) := by rw [List.drop_eq_getElem_cons hjn, ← hee]
      have htk : l.take (j + 1) = l.take j ++ [e] := by rw [List.take_add_one, hi']; rfl
      have hE : (cs.drop (j * 3)).take 3 = ec e := by rw [hcd, hdj]; rfl
      have hcd1 : cs.drop ((j + 1) * 3) = ecs (l.drop (j + 1)) := by
        rw [show (j + 1) * 3 = j * 3 + 3 from by omega, ← List.drop_drop, hcd, hdj]; rfl
      have F1 : Fr (s1.set M (.cells true 1 (ec ⟨0, 0, 0⟩))) s2 [q] := Fr.new (hT.free hNM) F
      have F2 : Fr ((s1.set M (.cells true 1 (ec ⟨0, 0, 0⟩))).set M (.cells true 1 (ec e))) s2 [q] := by rw [AHeap.set_set]; exact Fr.new (hT.free hNM) F
      have T2 : Top (M + 1) ((s1.set M (.cells true 1 (ec ⟨0, 0, 0⟩))).set M (.cells true 1 (ec e))) := T.new.set (by omega)
      have cF := hF _ e F2 (List.mem_of_getElem? hi')


      cases hbe : b e
      · rw [hbe] at cF
        have hr1 : r ++ [e] = keepF b (l.take (j + 1)) := by rw [htk, keepF_snoc, if_neg (by rw [hbe]; decide), ← hr]
        have hsp := O.splice_set (c := cs) (l := ec e) (off := r.length * 3) (by show r.length * 3 + 3 ≤ _; omega)
        have hsplen : (splice cs (r.length * 3) (ec e)).length = l.length * 3 := by rw [splice_length, hcl]
        (repeat' (first | (apply Ab.K.ev; exact ev_) | (apply Ab.K.aops; first | (apply Xg.s; constructor) | (apply Ab.S.guardU; (case hd => rfl); (case hb => (exact ev_; done))) | apply Ab.S.guardG) | (apply Ab.K.aop; first | (first | (apply Ab.O.allocA (l := ec ⟨0, 0, 0⟩) M; (case hid => exact T.free (Nat.le_refl _)); (case hp => rfl)) | (apply Ab.O.call; (case hf => exact ev_); (case ha => exact evs_); (case hc => exact cF)) | (apply Ab.O.storeAll; (case hz => rfl); (case hx => exact ev_); (case hy => exact ev_); (case hs => exact at_); (case hl => rfl); (case hc => rfl))) | (apply Og.s; constructor) | (apply Ab.O.clear0; (case hx => exact ev_)) | (apply Ab.O.clearG; (case hz => exact ⟨rfl, rfl⟩))) | (apply Ab.K.gk; first | (apply Xg.s; constructor) | (apply Ab.gY; case hw => assumption) | (apply Ab.gNT; case hw => assumption) | (apply Ab.gNF; case hw => assumption) | ((first | apply Ab.gD | apply Ab.gDN); all_goals (intro _ _; (first | contradiction | (exfalso; omega) | skip)))) | (apply Ab.K.awp; first | (apply Xg.s; constructor)) | (apply Ab.K.at_; exact at_) | (apply Ab.K.acall; first | assumption | fail) | (apply Ab.Rg.mk; omega) | (apply Ab.Lt.mk; first | decide | (simp; done) | (simp; omega) | first | omega | (show (0 + 3 : Nat) < 3 + 1; decide)) | (apply Ab.Get.mk; first | rfl | fail) | (apply Ab.Nm.mk; first | first | exact Eq.trans (congrArg (fun z => List.take _ (List.drop (z * 3) cs)) (Int.toNat_natCast j)) hE | exact (show ((ec e).drop 0).take 3 = ec e from rfl) | exact nrm_) | (apply Xg.s; constructor) | (apply Ab.asm; assumption) | rfl | infer_instance | decide))
        refine X.roundN (l.length - (j + 1)) (by omega) ⟨j + 1, M + 1, r ++ [e], splice cs (r.length * 3) (ec e), by exact ev_, by exact ev_, by rw [List.length_append]; exact ev_, by exact ev_, by exact at_, hsplen, splice_all_pl hcp rfl, hr1, ?_, ?_, by rw [List.length_append]; simp; omega, by omega, Fr.set (by simp) F2, T2.set (by omega), by omega, rfl⟩
        · rw [List.length_append, show (r.length + [e].length) * 3 = r.length * 3 + (ec e).length from by simp [ec]; omega, splice_take (by show r.length * 3 + 3 ≤ _; omega), hct, ecs_append]
          simp [ecs]
        · rw [splice_drop (by show r.length * 3 + 3 ≤ _; omega) (by show r.length * 3 + 3 ≤ _; omega)]; exact hcd1
      · rw [hbe] at cF
        have hr1 : r = keepF b (l.take (j + 1)) := by rw [htk, keepF_snoc, if_pos hbe, List.append_nil, ← hr]
        (repeat' (first | (apply Ab.K.ev; exact ev_) | (apply Ab.K.aops; first | (apply Xg.s; constructor) | (apply Ab.S.guardU; (case hd => rfl); (case hb => (exact ev_; done))) | apply Ab.S.guardG) | (apply Ab.K.aop; first | (first | (apply Ab.O.allocA (l := ec ⟨0, 0, 0⟩) M; (case hid => exact T.free (Nat.le_refl _)); (case hp => rfl)) | (apply Ab.O.call; (case hf => exact ev_); (case ha => exact evs_); (case hc => exact cF)) | (apply Ab.O.storeAll; (case hz => rfl); (case hx => exact ev_); (case hy => exact ev_); (case hs => exact at_); (case hl => rfl); (case hc => rfl))) | (apply Og.s; constructor) | (apply Ab.O.clear0; (case hx => exact ev_)) | (apply Ab.O.clearG; (case hz => exact ⟨rfl, rfl⟩))) | (apply Ab.K.gk; first | (apply Xg.s; constructor) | (apply Ab.gY; case hw => assumption) | (apply Ab.gNT; case hw => assumption) | (apply Ab.gNF; case hw => assumption) | ((first | apply Ab.gD | apply Ab.gDN); all_goals (intro _ _; (first | contradiction | (exfalso; omega) | skip)))) | (apply Ab.K.awp; first | (apply Xg.s; constructor)) | (apply Ab.K.at_; exact at_) | (apply Ab.K.acall; first | assumption | fail) | (apply Ab.Rg.mk; omega) | (apply Ab.Lt.mk; first | decide | (simp; done) | (simp; omega) | first | omega | (show (0 + 3 : Nat) < 3 + 1; decide)) | (apply Ab.Get.mk; first | rfl | fail) | (apply Ab.Nm.mk; first | first | exact Eq.trans (congrArg (fun z => List.take _ (List.drop (z * 3) cs)) (Int.toNat_natCast j)) hE | exact (show ((ec e).drop 0).take 3 = ec e from rfl) | exact nrm_) | (apply Xg.s; constructor) | (apply Ab.asm; assumption) | rfl | infer_instance | decide))
        exact X.roundN (l.length - (j + 1)) (by omega) ⟨j + 1, M + 1, r, cs, by exact ev_, by exact ev_, by exact ev_, by exact ev_, by exact at_, hcl, hcp, hr1, hct, hcd1, by omega, by omega, F2, T2, by omega, rfl⟩
    · obtain rfl : j = l.length := by omega
      rw [List.take_length] at hr
      (repeat' (first | (apply Ab.K.ev; exact ev_) | (apply Ab.K.aops; first | (apply Xg.s; constructor) | (apply Ab.S.guardU; (case hd => rfl); (case hb => (exact ev_; done))) | apply Ab.S.guardG) | (apply Ab.K.aop; first | (apply Og.s; constructor) | (apply Ab.O.clear0; (case hx => exact ev_)) | (apply Ab.O.clearG; (case hz => exact ⟨rfl, rfl⟩))) | (apply Ab.K.gk; first | (apply Xg.s; constructor) | (apply Ab.gY; case hw => assumption) | (apply Ab.gNT; case hw => assumption) | (apply Ab.gNF; case hw => assumption) | ((first | apply Ab.gD | apply Ab.gDN); all_goals (intro _ _; (first | contradiction | (exfalso; omega) | skip)))) | (apply Ab.K.awp; first | (apply Xg.s; constructor)) | (apply Ab.K.at_; exact at_) | (apply Ab.K.acall; first | assumption | fail) | (apply Ab.Rg.mk; omega) | (apply Ab.Lt.mk; first | decide | (simp; done) | (simp; omega) | first | omega | (show (0 + 3 : Nat) < 3 + 1; decide)) | (apply Ab.Get.mk; first | rfl | fail) | (apply Ab.Nm.mk; first | first | exact Eq.trans (congrArg (fun z => List.take _ (List.drop (z * 3) cs)) (Int.toNat_natCast j)) hE | exact (show ((ec e).drop 0).take 3 = ec e from rfl) | exact nrm_) | (apply Xg.s; constructor) | (apply Ab.asm; assumption) | rfl | infer_instance | decide))
      all_goals ((first | apply RetE.ret | apply RetE.normal); (case he => exact evr_); (case hg => rfl))
      · rw [Int.toNat_natCast, ← hr]
        exact ⟨splice cs (r.length * 3) (zrep (l.length - r.length) [.int .i64 0, .int .i64 0, .int .i64 0]), rfl, rfl, by rw [splice_length, hcl], splice_all_pl hcp (zrep_pl rfl), by rw [splice_take_le (by rw [zrep_length]; show _ + (l.length - r.length) * 3 ≤ _; omega) (Nat.le_refl _)]; exact hct⟩
      · rw [Nat.zero_add, Int.toNat_natCast]
        refine Keeps.one hq0.eq (AHeap.set_same _ _ _) (fun i hi c hc => ?_) (nm_scal (splice_all_pl hcp (zrep_pl rfl))) (by simp [resV, nmR, nmB, nm1, nmA, hq0.eq])
        rw [AHeap.set_other _ _ hi]
        exact F i (by simpa using hi) c hc
  · rw [keepF_all hall]
    clear c38
    (repeat' (first | (apply Ab.K.ev; exact ev_) | (apply Ab.K.aops; first | (apply Xg.s; constructor) | (apply Ab.S.guardU; (case hd => rfl); (case hb => (exact ev_; done))) | apply Ab.S.guardG) | (apply Ab.K.aop; first | (apply Og.s; constructor) | (apply Ab.O.clear0; (case hx => exact ev_)) | (apply Ab.O.clearG; (case hz => exact ⟨rfl, rfl⟩))) | (apply Ab.K.gk; first | (apply Xg.s; constructor) | (apply Ab.gY; case hw => assumption) | (apply Ab.gNT; case hw => assumption) | (apply Ab.gNF; case hw => assumption) | ((first | apply Ab.gD | apply Ab.gDN); all_goals (intro _ _; (first | contradiction | (exfalso; omega) | skip)))) | (apply Ab.K.awp; first | (apply Xg.s; constructor)) | (apply Ab.K.at_; exact at_) | (apply Ab.K.acall; first | assumption | fail) | (apply Ab.Rg.mk; omega) | (apply Ab.Lt.mk; first | decide | (simp; done) | (simp; omega) | first | omega | (show (0 + 3 : Nat) < 3 + 1; decide)) | (apply Ab.Get.mk; first | rfl | fail) | (apply Ab.Nm.mk; first | first | exact Eq.trans (congrArg (fun z => List.take _ (List.drop (z * 3) cs)) (Int.toNat_natCast j)) hE | exact (show ((ec e).drop 0).take 3 = ec e from rfl) | exact nrm_) | (apply Xg.s; constructor) | (apply Ab.asm; assumption) | rfl | infer_instance | decide))
    all_goals ((first | apply RetE.ret | apply RetE.normal); (case he => exact evr_); (case hg => rfl))
    · exact ⟨ecs l, rfl, (set_id hq).symm, ecs_length l, ecs_pl l, by rw [← ecs_length, List.take_length]⟩
    · exact Keeps.self (by simp [resV, nmR, nmB, nm1, nmA, hq.eq])
end Go.Proofs.Ytdbnpghckgmaoaa

/- trees: the next node. -/
namespace Go.Proofs.Ytdbnpghckgmaoaa
set_option linter.unusedVariables false
set_option linter.unusedSimpArgs false
set_option linter.unusedSectionVars false
open Go.RowKit Ab TP
attribute [local irreducible] AOps AOpsD AOp AWp put nargs AHeap.set At Free ACall ACallE thenQ blockQ roundQ RetQ RetE Src bsn
theorem next12_err {s : AHeap} {v : Value} {x : Int} {a b : Int} (hx : x ≠ 0) (c11 : ACall Try.prog 34 [v, .int .i64 a, .int .i64 b] s (.tuple #[.slice none 0 0, .int .i64 x]) s) :
    ACall Try.prog 21 [v, .int .i64 a, .int .i64 b] s (.tuple #[.int .i64 0, .int .i64 x]) s := by

  (refine ACall.make Try.func21 rfl (by kernel_rfl) (by decide) rfl (fun N hN => ?_); have hT : Top N _ := hN; (repeat' (first | (apply Ab.K.ev; exact ev_) | (apply Ab.K.aops; first | (apply Xg.s; constructor) | (apply Ab.S.guardU; (case hd => rfl); (case hb => (exact ev_; done))) | apply Ab.S.guardG) | (apply Ab.K.aop; first | (apply Og.s; constructor)) | (apply Ab.K.gk; first | (apply Xg.s; constructor) | (apply Ab.gY; case hw => assumption) | (apply Ab.gNT; case hw => assumption) | (apply Ab.gNF; case hw => assumption) | ((first | apply Ab.gD | apply Ab.gDN); all_goals (intro _ _; (first | contradiction | (exfalso; omega) | skip)))) | (apply Ab.K.awp; first | (apply Xg.s; constructor)) | (apply Ab.K.at_; exact at_) | (apply Ab.K.acall; first | assumption | exact c11) | (apply Ab.Rg.mk; omega) | (apply Ab.Lt.mk; first | decide | (simp; done) | (simp; omega) | fail) | (apply Ab.Get.mk; first | rfl | fail) | (apply Ab.Nm.mk; first | exact nrm_) | (apply Xg.s; constructor) | (apply Ab.asm; assumption) | rfl | infer_instance | decide)); (all_goals ((first | apply RetQ.ret | apply RetQ.normal); (case he => exact evr_); (case hg => rfl))); (all_goals first | rfl | (apply Keeps.fr; (case h => exact fr_); (case hv => exact plR.nm rfl)) | fail))
theorem next12_yes {s : AHeap} {v : Value} {a b y : Int} {p : List Int} (hp : p.length ≤ 64) (hpl : 1 ≤ p.length) (hy : (p ++ [b])[1]? = some y) (c11 : ∀ o, s o = none → ACall Try.prog 34 [v, .int .i64 a, .int .i64 b] s (.tuple #[.slice (some ⟨o, 0, none⟩) p.length p.length, .int .i64 0]) (s.set o (.cells true 1 (ints p)))) :
    ACall Try.prog 21 [v, .int .i64 a, .int .i64 b] s (.tuple #[.int .i64 y, .int .i64 0]) s := by
  refine ACall.make Try.func21 rfl (by kernel_rfl) (by decide) rfl (fun N hN => ?_)
  have hT : Top N s := hN
  have c1 := c11 N (hT.none (Nat.le_refl _))
  have hcl : (ints p).length = p.length := ints_length p


  (repeat' (first | (apply Ab.K.ev; exact ev_) | (apply Ab.K.aops; first | (apply Xg.s; constructor) | (apply Ab.S.guardU; (case hd => rfl); (case hb => (exact ev_; done))) | apply Ab.S.guardG) | (apply Ab.K.aop; first | (apply Ab.O.build1 (N + 1); (case hx => exact ev_); (case hv => exact ⟨rfl, rfl⟩); (case hz => exact ⟨rfl, rfl⟩); (case hid => exact free_)) | (apply Og.s; constructor)) | (apply Ab.K.gk; first | (apply Xg.s; constructor) | (apply Ab.gY; case hw => assumption) | (apply Ab.gNT; case hw => assumption) | (apply Ab.gNF; case hw => assumption) | ((first | apply Ab.gD | apply Ab.gDN); all_goals (intro _ _; (first | contradiction | (exfalso; omega) | skip)))) | (apply Ab.K.awp; first | (apply Xg.s; constructor)) | (apply Ab.K.at_; exact at_) | (apply Ab.K.acall; first | assumption | exact c1) | (apply Ab.Rg.mk; omega) | (apply Ab.Lt.mk; first | decide | (simp; done) | (simp; omega) | fail) | (apply Ab.Get.mk; first | rfl | fail) | (apply Ab.Nm.mk; first | exact nrm_) | (apply Xg.s; constructor) | (apply Ab.asm; assumption) | rfl | infer_instance | decide))
  (apply Ab.O.appendL (N + 2); (case hx => exact ev_); (case hL => first | exact LAt.nil | exact LAt.blk (by exact at_) (by first | rfl | exact hcl | (rw [Nat.mul_one]; exact hcl) | simp [ints_length])); (case hy => exact ev_); (case hs => first | exact Src.sl (by exact at_) (by decide) (by decide) rfl | exact srcAll (by exact at_) (by first | rfl | exact hcl | (rw [Nat.mul_one]; exact hcl) | simp [ints_length])); (case hk => rfl); (case hm => decide); (case hl => first | rfl | first | rfl | exact hcl | (rw [Nat.mul_one]; exact hcl) | simp [ints_length]); (case hz => decide); (case hb => omega); (case hfree => exact free_))
  intro s2 g
  have F : Fr s2 s [] := g.fr (Fr.new (hT.free (by omega)) (Fr.new (hT.free (by omega)) (Fr.refl _ _))) (fun q' e => .inl (hT.none (by have := Option.some.inj e; omega)))
  have gh := g.hit
  have gy : (ints p ++ [.int .i64 b])[Int.toNat 1]? = some (.int .i64 y) := by
    have := ints_get hy
    rwa [ints_append] at this

  (repeat' (first | (apply Ab.K.ev; exact ev_) | (apply Ab.K.aops; first | (apply Xg.s; constructor) | (apply Ab.S.guardU; (case hd => rfl); (case hb => (exact ev_; done))) | apply Ab.S.guardG) | (apply Ab.K.aop; first | (apply Og.s; constructor)) | (apply Ab.K.gk; first | (apply Xg.s; constructor) | (apply Ab.gY; case hw => assumption) | (apply Ab.gNT; case hw => assumption) | (apply Ab.gNF; case hw => assumption) | ((first | apply Ab.gD | apply Ab.gDN); all_goals (intro _ _; (first | contradiction | (exfalso; omega) | skip)))) | (apply Ab.K.awp; first | (apply Xg.s; constructor)) | (apply Ab.K.at_; exact at_) | (apply Ab.K.acall; first | assumption | fail) | (apply Ab.Rg.mk; omega) | (apply Ab.Lt.mk; first | decide | (simp; done) | (simp; omega) | fail) | (apply Ab.Get.mk; first | rfl | first | exact gy | (rw [Nat.mul_one]; exact gy)) | (apply Ab.Nm.mk; first | exact nrm_) | (apply Xg.s; constructor) | (apply Ab.asm; assumption) | rfl | infer_instance | decide))
  all_goals ((first | apply RetQ.ret | apply RetQ.normal); (case he => exact evr_); (case hg => rfl))
  all_goals first | rfl | exact Keeps.fr F (plR.nm rfl)
end Go.Proofs.Ytdbnpghckgmaoaa

/- trees: the program's sides. -/
namespace Go.Proofs.Ytdbnpghckgmaoaa
set_option linter.unusedVariables false
set_option linter.unusedSimpArgs false
set_option linter.unusedSectionVars false
open Go.RowKit Ab TP
attribute [local irreducible] AOps AOpsD AOp AWp put nargs AHeap.set At Free ACall ACallE thenQ blockQ roundQ RetQ RetE Src bsn Gr




/-- What the program's side answers. -/
noncomputable def sOk (l : List E) (a : Int) : Bool := gfB l && decide (TP.Node a)
theorem sOk_iff {l : List E} {a : Int} : sOk l a = true ↔ TP.Good l ∧ Forest l ∧ TP.Node a := by
  unfold sOk gfB
  simp only [Bool.and_eq_true, decide_eq_true_iff, foB_iff, and_assoc]

theorem keepF_rm {l : List E} {e : E} : keepF (fun f => decide (f = e)) l = rm l e := by
  unfold keepF rm
  exact List.filter_congr fun f _ => by simp
theorem rm_none {l : List E} {e : E} (h : e ∉ l) : rm l e = l := List.filter_eq_self.2 fun f hf => by
  rw [decide_eq_true_iff]; exact fun e1 => h (e1 ▸ hf)
theorem rm_lt {l : List E} {e : E} (h : e ∈ l) : (rm l e).length < l.length := by
  have hs : (rm l e).length ≤ l.length := rm_len
  by_cases hh : (rm l e).length = l.length
  · have := (List.filter_sublist (l := l) (p := fun f => decide (f ≠ e))).eq_of_length hh
    have h2 : e ∈ rm l e := by unfold rm; rw [this]; exact h
    exact absurd rfl (mem_rm.1 h2).2
  · omega
/-- Edges in a slice's first cells. -/
theorem EA.part {s : AHeap} {q c : Nat} {cs : List Value} {l : List E} (h : At s q (.cells true 3 cs)) (hc : cs.length = c * 3) (hx : cs.take (l.length * 3) = ecs l) : EA s (.slice (some ⟨q, 0, none⟩) l.length c) (some q) l := by
  refine .blk h ?_ hx
  have := congrArg List.length hx
  rw [List.length_take, ecs_length] at this
  omega





end Go.Proofs.Ytdbnpghckgmaoaa

/- trees: the small question, and the theorem of ways. -/
namespace Go.Proofs.Ytdbnpghckgmaoaa
set_option linter.unusedVariables false
set_option linter.unusedSimpArgs false
set_option linter.unusedSectionVars false
open Go.RowKit Ab TP
attribute [local irreducible] AOps AOpsD AOp AWp put nargs AHeap.set At Free ACall ACallE thenQ blockQ roundQ RetQ RetE Src bsn
abbrev e1 : E := ⟨1, 2, 0⟩
abbrev e2 : E := ⟨2, 3, 0⟩
theorem el_good : TP.Good [e1, e2] := by decide
theorem el_forest : Forest [e1, e2] := by
  show Forest (([] ++ [e1]) ++ [e2])
  refine Forest.snoc.2 ⟨Forest.snoc.2 ⟨Forest.nil, fun h => absurd h.nil (by decide)⟩, fun h => ?_⟩
  rcases Conn.add (l := []) (e := e1) (fun f hf => .inl (by simpa using hf)) h with h | ⟨h, _⟩ | ⟨_, h⟩
  · exact absurd h.nil (by decide)
  · exact absurd h.nil (by decide)
  · exact absurd h.nil (by decide)
theorem el_way : TP.Way [e1, e2] 3 1 [3, 2, 1] :=
  .cons ⟨e2, by simp, .inr ⟨rfl, rfl⟩⟩ (by decide) (.cons ⟨e1, by simp, .inr ⟨rfl, rfl⟩⟩ (by decide) (.one 1))
theorem el_ok : wOk [e1, e2] 3 1 = true := wOk_iff.2 ⟨el_good, el_forest, by decide, by decide⟩

end Go.Proofs.Ytdbnpghckgmaoaa

/- trees: all behind a node, the program's. -/
namespace Go.Proofs.Ytdbnpghckgmaoaa
set_option linter.unusedVariables false
set_option linter.unusedSimpArgs false
set_option linter.unusedSectionVars false
open Go.RowKit Ab TP
attribute [local irreducible] AOps AOpsD AOp AWp put nargs AHeap.set At Free ACall ACallE thenQ blockQ roundQ RetQ RetE Src bsn Gr
theorem below35 {s : AHeap} {I W q : Nat} {rw1 : Bool} {p : List Int} {e : E} {a y : Int} (hI : At s I (.cells true 1 [.int .i64 a])) (hw : At s W (.cells true 1 [.slice (some ⟨q, 0, none⟩) p.length p.length])) (hq : At s q (.cells rw1 1 (ints p))) (hy : p[1]? = some y) :
    ACall Try.prog 39 (.agg (ec e).toArray :: #[Value.pointer (some ⟨I, 0, none⟩), .pointer (some ⟨W, 0, none⟩)].toList) s (.bool (decide (other e a = y))) s := by
  refine ACall.make Try.func39 rfl (by kernel_rfl) (by decide) rfl (fun N hN => ?_)
  have hT : Top N s := hN
  have hWN := hT.lt hw
  have hIN := hT.lt hI
  have hqN := hT.lt hq
  have hyl := (List.getElem?_eq_some_iff.1 hy).1
  have gy := ints_get hy
  have c36 : ∀ s : AHeap, ACall Try.prog 40 [.agg (ec e).toArray, .int .i64 a] s (.int .i64 (other e a)) s := fun s => other36





  (repeat' (first | (apply Ab.K.ev; exact ev_) | (apply Ab.K.aops; first | (apply Xg.s; constructor) | (apply Ab.S.guardU; (case hd => rfl); (case hb => (exact ev_; done))) | apply Ab.S.guardG) | (apply Ab.K.aop; first | (apply Ab.O.boxA (N + 0); (case hx => exact ev_); (case hid => exact frees_)) | (apply Og.s; constructor)) | (apply Ab.K.gk; first | (apply Xg.s; constructor) | (apply Ab.gY; case hw => assumption) | (apply Ab.gNT; case hw => assumption) | (apply Ab.gNF; case hw => assumption) | ((first | apply Ab.gD | apply Ab.gDN); all_goals (intro _ _; (first | contradiction | (exfalso; omega) | skip)))) | (apply Ab.K.aopsD; first | (apply Ab.D.q0t; (case hw => rfl); (case hot => rfl)) | (apply Ab.D.w1t; (case hw => rfl); (case hot => rfl)) | (apply Ab.D.q0; (case hw => rfl); intro _ _) | (apply Ab.D.w1n; (case hw => rfl); intro _ _) | (apply Ab.D.w2n; (case hw => rfl); intro _ _) | (apply Xg.s; constructor) | fail | apply Ab.D.guardG) | exact ⟨rfl, rfl⟩ | (apply Ab.K.awp; first | (apply AWp.draw (id := 1) [[], [], [0, 1], [], [3], [3, 4], [0, 1, 2, 3, 4, 5], [0, 1, 2, 3, 4, 5, 6]] [] (by kernel_rfl) (by kernel_rfl) (by simp [apartW, unordB, cC] <;> omega)) | (apply Xg.s; constructor)) | (apply Ab.K.at_; exact at_) | (apply Ab.K.acall; first | assumption | exact c36 _) | (apply Ab.Rg.mk; omega) | (apply Ab.Lt.mk; first | decide | (simp; done) | (simp; omega) | first | omega | (show (0 + 3 : Nat) < 3 + 1; decide)) | (apply Ab.Get.mk; first | rfl | first | rfl | exact gy) | (apply Ab.Nm.mk; first | first | exact (show ((ec e).drop 0).take 3 = ec e from rfl) | exact nrm_) | (apply Xg.s; constructor) | (apply Ab.asm; assumption) | rfl | infer_instance | decide))
  all_goals ((first | apply RetQ.ret | apply RetQ.normal); (case he => exact evr_); (case hg => rfl))
  all_goals first | rfl | (apply Keeps.fr; (case h => exact fr_); (case hv => exact plR.nm rfl))


theorem below16_err {s : AHeap} {v : Value} {x root a : Int} (hx : x ≠ 0) (c11 : ∀ s1 : AHeap, Fr s1 s [] → ACall Try.prog 34 [v, .int .i64 a, .int .i64 root] s1 (.tuple #[.slice none 0 0, .int .i64 x]) s1) :
    ACall Try.prog 24 [v, .int .i64 root, .int .i64 a] s (.tuple #[.slice none 0 0, .int .i64 x]) s := by
  refine ACall.make Try.func24 rfl (by kernel_rfl) (by decide) rfl (fun N hN => ?_)
  have hT : Top N s := hN
  have c1 := c11 (s.set N (.cells true 1 [.int .i64 a])) (Fr.new (hT.free (Nat.le_refl _)) (Fr.refl _ _))

  (repeat' (first | (apply Ab.K.ev; exact ev_) | (apply Ab.K.aops; first | (apply Xg.s; constructor) | (apply Ab.S.guardU; (case hd => rfl); (case hb => (exact ev_; done))) | apply Ab.S.guardG) | (apply Ab.K.aop; first | (first | (apply Ab.O.alloc1 (N + 1); (case hid => exact frees_); (case hp => rfl)) | (apply Ab.O.box1 N; (case hx => exact ev_); (case hid => exact hT.free (Nat.le_refl _)); (case hv => rfl); (case hn => rfl))) | (apply Og.s; constructor)) | (apply Ab.K.gk; first | (apply Xg.s; constructor) | (apply Ab.gY; case hw => assumption) | (apply Ab.gNT; case hw => assumption) | (apply Ab.gNF; case hw => assumption) | ((first | apply Ab.gD | apply Ab.gDN); all_goals (intro _ _; (first | contradiction | (exfalso; omega) | skip)))) | (apply Ab.K.awp; first | (apply Xg.s; constructor)) | (apply Ab.K.at_; exact at_) | (apply Ab.K.acall; first | assumption | exact c1) | (apply Ab.Rg.mk; omega) | (apply Ab.Lt.mk; first | decide | (simp; done) | (simp; omega) | first | omega | (show (0 + 3 : Nat) < 3 + 1; decide)) | (apply Ab.Get.mk; first | rfl | first | rfl | exact gy) | (apply Ab.Nm.mk; first | first | exact (show ((ec e).drop 0).take 3 = ec e from rfl) | exact nrm_) | (apply Xg.s; constructor) | (apply Ab.asm; assumption) | rfl | infer_instance | decide))
  all_goals ((first | apply RetQ.ret | apply RetQ.normal); (case he => exact evr_); (case hg => rfl))
  all_goals first | rfl | (apply Keeps.fr; (case h => exact fr_); (case hv => exact plR.nm rfl))

theorem bel_self {l : List E} {a : Int} (ha : TP.Node a) : bel l a a = side l a := by
  unfold bel side
  refine lkN_congr fun i h1 h2 => ?_
  rw [Bool.eq_iff_iff, belB_iff, reachB_iff]
  constructor
  · rintro ⟨_, p, hp, _⟩
    exact ⟨ha, hp.conn⟩
  · rintro ⟨_, hc⟩
    obtain ⟨p, hp⟩ := Way.ex hc
    exact ⟨ha, p, hp, hp.mem_first⟩
theorem bel_rm {l : List E} (hc : Cut l) {a root w1 : Int} {t : List Int} (ha : TP.Node a) (hr : TP.Node root) (hw : TP.Way l a root (a :: w1 :: t)) {e : E} (he : e ∈ l) (hh : e.has a w1) : bel l root a = side (rm l e) a := by
  unfold bel side
  refine lkN_congr fun i h1 h2 => ?_
  rw [Bool.eq_iff_iff, belB_iff, reachB_iff]
  constructor
  · rintro ⟨_, p, hp, hm⟩
    exact ⟨ha, (below_iff hc hw he hh hp).1 hm⟩
  · rintro ⟨_, hcn⟩
    obtain ⟨p, hp⟩ := Way.ex (hw.conn.symm.trans (hcn.mono rm_sub))
    exact ⟨hr, p, hp, (below_iff hc hw he hh hp).2 hcn⟩
theorem below16_self {s : AHeap} {A : Option Addr} {n c : Nat} {on : Option Nat} {l : List E} {a : Int} {o : Nat} (h : EA s (.slice A n c) on l) (hn : n ≤ 512) (hok : wOk l a a = true) (ho : s o = none) :
    ACall Try.prog 24 [.slice A n c, .int .i64 a, .int .i64 a] s (.tuple #[.slice (some ⟨o, 0, none⟩) (side l a).length (side l a).length, .int .i64 0]) (s.set o (.cells true 1 (ints (side l a)))) := by
  obtain ⟨hg, hf, ha, _⟩ := wOk_iff.1 hok
  refine ACall.make Try.func24 rfl (by kernel_rfl) (by decide) rfl (fun N hN => ?_)
  have hT : Top N s := hN
  obtain ⟨s1, hs1⟩ : ∃ s1, s1 = s.set N (.cells true 1 [.int .i64 a]) := ⟨_, rfl⟩
  have T1 : Top (N + 1) s1 := by rw [hs1]; exact hT.new
  have F1 : Fr s1 s [] := by rw [hs1]; exact Fr.new (hT.free (Nat.le_refl _)) (Fr.refl _ _)
  have c1 := way11_yes (o := N + 1) (h.fr F1) hn hok (.one a) (T1.none (Nat.le_refl _))
  obtain ⟨s2, hs2⟩ : ∃ s2, s2 = ((s1.set (N + 1) (.cells true 1 (ints [a]))).set (N + 2) (.cells true 1 [.slice none 0 0])).set (N + 2) (.cells true 1 [.slice (some ⟨N + 1, 0, none⟩) 1 1]) := ⟨_, rfl⟩
  have T2 : Top (N + 3) s2 := by rw [hs2, AHeap.set_set]; exact T1.new.new
  have F2 : Fr s2 s [] := by rw [hs2, AHeap.set_set]; exact Fr.new (hT.free (by omega)) (Fr.new (hT.free (by omega)) F1)
  have c34 := linked34 (o := N + 3) (h.fr F2) hg ha hn (T2.none (Nat.le_refl _))
  rw [hs2, hs1] at c34
  rw [hs1] at c1

  (repeat' (first | (apply Ab.K.ev; exact ev_) | (apply Ab.K.aops; first | (apply Xg.s; constructor) | (apply Ab.S.guardU; (case hd => rfl); (case hb => (exact ev_; done))) | apply Ab.S.guardG) | (apply Ab.K.aop; first | (first | (apply Ab.O.alloc1 (N + 2); (case hid => exact frees_); (case hp => rfl)) | (apply Ab.O.box1 N; (case hx => exact ev_); (case hid => exact hT.free (Nat.le_refl _)); (case hv => rfl); (case hn => rfl))) | (apply Og.s; constructor)) | (apply Ab.K.gk; first | (apply Xg.s; constructor) | (apply Ab.gY; case hw => assumption) | (apply Ab.gNT; case hw => assumption) | (apply Ab.gNF; case hw => assumption) | ((first | apply Ab.gD | apply Ab.gDN); all_goals (intro _ _; (first | contradiction | (exfalso; omega) | skip)))) | (apply Ab.K.awp; first | (apply Xg.s; constructor)) | (apply Ab.K.at_; exact at_) | (apply Ab.K.acall; first | assumption | first | exact c1 | exact c34) | (apply Ab.Rg.mk; omega) | (apply Ab.Lt.mk; first | decide | (simp; done) | (simp; omega) | first | omega | (show (0 + 3 : Nat) < 3 + 1; decide)) | (apply Ab.Get.mk; first | rfl | first | rfl | exact gy) | (apply Ab.Nm.mk; first | first | exact (show ((ec e).drop 0).take 3 = ec e from rfl) | exact nrm_) | (apply Xg.s; constructor) | (apply Ab.asm; assumption) | rfl | infer_instance | decide))
  rw [← hs1, ← hs2]
  apply RetQ.retR (renL (dn [(o, N + 3, .cells true 1 (ints (side l a)))]))
  (case he => exact evr_)
  (case hg => rfl)
  · simp [resV, mpR, mpB, mp1, mpA, renL_hit]
  · exact KeepsR.new1 ho (hT.none (by omega)) (Fr.new (hT.free (by omega)) F2) At.hit (ints_pl _) (by simp [nmR, nmB, nm1, nmA])
  · simp

set_option maxHeartbeats 4000000 in
theorem below16_yes {s : AHeap} {A : Option Addr} {n c : Nat} {on : Option Nat} {l : List E} {root a w1 : Int} {t : List Int} {e : E} {o : Nat} (h : EA s (.slice A n c) on l) (hn : n ≤ 512) (hok : wOk l a root = true) (hw : TP.Way l a root (a :: w1 :: t)) (he : e ∈ l) (hh : e.has a w1) (hne : a ≠ root) (ho : s o = none) :
    ACall Try.prog 24 [.slice A n c, .int .i64 root, .int .i64 a] s (.tuple #[.slice (some ⟨o, 0, none⟩) (side (rm l e) a).length (side (rm l e) a).length, .int .i64 0]) (s.set o (.cells true 1 (ints (side (rm l e) a)))) := by
  obtain ⟨hg, hf, ha, hr⟩ := wOk_iff.1 hok
  have hnl : n = l.length := by obtain ⟨_, _, e⟩ := h.isl; injection e
  have hw1 := hw.nodes (Good.node hg) ha w1 (by simp)
  have hlw := hw.short (Good.node hg) ha
  obtain ⟨p, hp⟩ : ∃ p, p = a :: w1 :: t := ⟨_, rfl⟩
  have hp1 : p[1]? = some w1 := by rw [hp]; rfl
  rw [← hp] at hw hlw
  rcases h.addr with rfl | ⟨q0, rfl⟩
  · obtain ⟨_, _, rfl⟩ := h.nil_len; cases he
  refine ACall.make Try.func24 rfl (by kernel_rfl) (by decide) rfl (fun N hN => ?_)
  have hT : Top N s := hN
  obtain ⟨s1, hs1⟩ : ∃ s1, s1 = s.set N (.cells true 1 [.int .i64 a]) := ⟨_, rfl⟩
  have T1 : Top (N + 1) s1 := by rw [hs1]; exact hT.new
  have F1 : Fr s1 s [] := by rw [hs1]; exact Fr.new (hT.free (Nat.le_refl _)) (Fr.refl _ _)
  have c1 := way11_yes (o := N + 1) (h.fr F1) hn hok hw (T1.none (Nat.le_refl _))
  obtain ⟨s2, hs2⟩ : ∃ s2, s2 = ((s1.set (N + 1) (.cells true 1 (ints p))).set (N + 2) (.cells true 1 [.slice none 0 0])).set (N + 2) (.cells true 1 [.slice (some ⟨N + 1, 0, none⟩) p.length p.length]) := ⟨_, rfl⟩
  have T2 : Top (N + 3) s2 := by rw [hs2, AHeap.set_set]; exact T1.new.new
  have F2 : Fr s2 s [] := by rw [hs2, AHeap.set_set]; exact Fr.new (hT.free (by omega)) (Fr.new (hT.free (by omega)) F1)
  have c32 := clone32 (h.fr F2) hn (T2.none (Nat.le_refl _))
  obtain ⟨s3, hs3⟩ : ∃ s3, s3 = s2.set (N + 3) (.cells true 3 (ecs l)) := ⟨_, rfl⟩
  have F3 : Fr s3 s [] := by rw [hs3]; exact Fr.new (hT.free (by omega)) F2
  have T3 : Top (N + 4) s3 := by rw [hs3]; exact T2.new
  have aI : At s3 N (.cells true 1 [.int .i64 a]) := by rw [hs3, hs2, hs1]; exact at_
  have aP : At s3 (N + 1) (.cells true 1 (ints p)) := by rw [hs3, hs2]; exact at_
  have aW : At s3 (N + 2) (.cells true 1 [.slice (some ⟨N + 1, 0, none⟩) p.length p.length]) := by rw [hs3, hs2]; exact at_
  have aq : At s3 (N + 3) (.cells true 3 (ecs l)) := by rw [hs3]; exact At.hit
  have c31 := deleteF31 (fn := 39) (caps := #[.pointer (some ⟨N, 0, none⟩), .pointer (some ⟨N + 2, 0, none⟩)]) (b := fun e => decide (other e a = w1)) aq hnl hn (fun s4 f F4 _ => below35 (At.var (F4 N (by simp) _ aI.eq)) (At.var (F4 (N + 2) (by simp) _ aW.eq)) (At.var (F4 (N + 1) (by simp) _ aP.eq)) hp1)
  have hkr : keepF (fun e => decide (other e a = w1)) l = rm l e := by
    unfold keepF rm
    refine List.filter_congr fun f hf => ?_
    rw [Bool.eq_iff_iff, Bool.not_eq_true', decide_eq_false_iff_not, decide_eq_true_iff]
    refine not_congr ⟨fun h1 => ?_, fun h1 => ?_⟩
    · have h2 : f.has a w1 := by rw [← h1]; exact other_has (by rw [h1]; have := hw1.1; omega)
      exact hg.eq hf he h2 hh
    · rw [h1]; exact has_other (hg.1 e he) hh
  rw [hkr] at c31
  have hnr : ¬ (a = root) := hne
  rw [hs3, hs2, hs1] at c31
  rw [hs2, hs1] at c32
  rw [hs1] at c1

  (repeat' (first | (apply Ab.K.ev; exact ev_) | (apply Ab.K.aops; first | (apply Xg.s; constructor) | (apply Ab.S.guardU; (case hd => rfl); (case hb => (exact ev_; done))) | apply Ab.S.guardG) | (apply Ab.K.aop; first | (first | (apply Ab.O.alloc1 (N + 2); (case hid => exact frees_); (case hp => rfl)) | (apply Ab.O.box1 N; (case hx => exact ev_); (case hid => exact hT.free (Nat.le_refl _)); (case hv => rfl); (case hn => rfl)) | (apply Ab.O.makeFunc; (case h1 => exact evs_); (case h2 => exact evs_); (case a1 => rfl); (case a2 => rfl)) | (apply Ab.O.callFE; (case ha => exact evs_); (case hc => exact c31))) | (apply Og.s; constructor)) | (apply Ab.K.gk; first | (apply Xg.s; constructor) | (apply Ab.gY; case hw => assumption) | (apply Ab.gNT; case hw => assumption) | (apply Ab.gNF; case hw => assumption) | ((first | apply Ab.gD | apply Ab.gDN); all_goals (intro _ _; (first | contradiction | (exfalso; omega) | skip)))) | (apply Ab.K.awp; first | (apply Xg.s; constructor)) | (apply Ab.K.at_; exact at_) | (apply Ab.K.acall; first | assumption | first | exact c1 | exact c32) | (apply Ab.Rg.mk; omega) | (apply Ab.Lt.mk; first | decide | (simp; done) | (simp; omega) | first | omega | (show (0 + 3 : Nat) < 3 + 1; decide)) | (apply Ab.Get.mk; first | rfl | first | rfl | exact gy) | (apply Ab.Nm.mk; first | first | exact (show ((ec e).drop 0).take 3 = ec e from rfl) | exact nrm_) | (apply Xg.s; constructor) | (apply Ab.asm; assumption) | rfl | infer_instance | decide))
  rw [← hs1, ← hs2, ← hs3]
  rintro v s4 ⟨cs, rfl, rfl, hcl, hcp, hct⟩
  clear c1 c31 c32
  have F4 : Fr (s3.set (N + 3) (.cells true 3 cs)) s [] := by rw [hs3, AHeap.set_set]; exact Fr.new (hT.free (by omega)) F2
  have T4 : Top (N + 4) (s3.set (N + 3) (.cells true 3 cs)) := T3.set (by omega)
  have c34 := linked34 (o := N + 4) (EA.part (l := rm l e) (At.hit (s := s3)) hcl hct) (hg.rm e) ha (Nat.le_trans rm_len (by omega)) (T4.none (Nat.le_refl _))
  have aI2 : At (s3.set (N + 3) (.cells true 3 cs)) N (.cells true 1 [.int .i64 a]) := At.miss (by omega) aI

  (repeat' (first | (apply Ab.K.ev; exact ev_) | (apply Ab.K.aops; first | (apply Xg.s; constructor) | (apply Ab.S.guardU; (case hd => rfl); (case hb => (exact ev_; done))) | apply Ab.S.guardG) | (apply Ab.K.aop; first | (apply Og.s; constructor)) | (apply Ab.K.gk; first | (apply Xg.s; constructor) | (apply Ab.gY; case hw => assumption) | (apply Ab.gNT; case hw => assumption) | (apply Ab.gNF; case hw => assumption) | ((first | apply Ab.gD | apply Ab.gDN); all_goals (intro _ _; (first | contradiction | (exfalso; omega) | skip)))) | (apply Ab.K.awp; first | (apply Xg.s; constructor)) | (apply Ab.K.at_; exact at_) | (apply Ab.K.acall; first | assumption | exact c34) | (apply Ab.Rg.mk; omega) | (apply Ab.Lt.mk; first | decide | (simp; done) | (simp; omega) | first | omega | (show (0 + 3 : Nat) < 3 + 1; decide)) | (apply Ab.Get.mk; first | rfl | first | rfl | exact gy) | (apply Ab.Nm.mk; first | first | exact (show ((ec e).drop 0).take 3 = ec e from rfl) | exact nrm_) | (apply Xg.s; constructor) | (apply Ab.asm; assumption) | rfl | infer_instance | decide))
  apply RetQ.retR (renL (dn [(o, N + 4, .cells true 1 (ints (side (rm l e) a)))]))
  (case he => exact evr_)
  (case hg => rfl)
  · simp [resV, mpR, mpB, mp1, mpA, renL_hit]
  · exact KeepsR.new1 ho (hT.none (by omega)) (Fr.new (hT.free (by omega)) F4) At.hit (ints_pl _) (by simp [nmR, nmB, nm1, nmA])
  · simp
end Go.Proofs.Ytdbnpghckgmaoaa

/- routes: why nothing is told, the next hop, the leader; by the program and by the document. -/
namespace Go.Proofs.Ytdbnpghckgmaoaa
set_option linter.unusedVariables false
set_option linter.unusedSimpArgs false
set_option linter.unusedSectionVars false
open Go.RowKit Ab TP VP
/-- Why nothing is told of a node. -/
noncomputable def chk (nodes : List Int) (L : List Kn) (a : Int) : Int := if mvB nodes L = true ∧ TP.Node a then (if foB (bnd L) = true then (if a ∈ nodes then 0 else 4) else 11) else 1
theorem chk_zero {nodes : List Int} {L : List Kn} {a : Int} (h : chk nodes L a = 0) : MayV nodes L ∧ TP.Node a ∧ Forest (bnd L) ∧ a ∈ nodes := by
  unfold chk at h
  split at h
  · rename_i h1
    split at h
    · rename_i h2
      split at h
      · rename_i h3; exact ⟨mvB_iff.1 h1.1, h1.2, foB_iff.1 h2, h3⟩
      · omega
    · omega
  · omega
theorem chk_of {nodes : List Int} {L : List Kn} {a : Int} (h1 : MayV nodes L) (h2 : TP.Node a) (h3 : Forest (bnd L)) (h4 : a ∈ nodes) : chk nodes L a = 0 := by
  unfold chk; rw [if_pos ⟨mvB_iff.2 h1, h2⟩, if_pos (foB_iff.2 h3), if_pos h4]
theorem VP.MayV.good {nodes : List Int} {L : List Kn} (h : MayV nodes L) : TP.Good (bnd L) := bnd_good h.1 h.2
theorem VP.MayV.gf {nodes : List Int} {L : List Kn} (h : MayV nodes L) : gfB (bnd L) = foB (bnd L) := by simp [gfB, h.good]
theorem Ab.NewL.ea {s s' : AHeap} {v : Value} {k : Nat} {l : List E} (h : NewL s 3 v k (ecs l) s') (hk : k = l.length) : ∃ A c on, v = .slice A k c ∧ EA s' (.slice A k c) on l := by
  obtain ⟨on, hE⟩ := EA.newL h hk
  obtain ⟨A, c, rfl⟩ := hE.isl
  subst hk
  exact ⟨A, c, on, rfl, hE⟩
theorem Ab.NewL.nm {s s' : AHeap} {es k : Nat} {v : Value} {xs : List Value} (h : NewL s es v k xs s') (kk : IntKind) (x : Int) : nmR (fun i => (s' i).isSome = true) (.tuple #[v, .int kk x]) := by
  intro y hy
  simp only [List.mem_toArray, List.mem_cons, List.not_mem_nil, or_false] at hy
  rcases hy with rfl | rfl
  · rcases h with ⟨_, _, rfl, _⟩ | ⟨u, _, rfl, _, rfl⟩
    · trivial
    · show ((s.set u _) u).isSome = true
      rw [AHeap.set_same]; rfl
  · trivial
theorem Ab.NewL.keep {s s0 s' s1 : AHeap} {es k : Nat} {v : Value} {xs : List Value} (h : NewL s0 es v k xs s') (F0 : Fr s0 s []) (hp : xs.all pl1 = true) (hf : Fr s1 s' []) (kk : IntKind) (x : Int) : ∃ s2, NewL s es v k xs s2 ∧ Keeps s s1 s2 (.tuple #[v, .int kk x]) := by
  rcases h with ⟨h1, h2, rfl, rfl⟩ | ⟨u, hu, rfl, hl, rfl⟩
  · exact ⟨s, .inl ⟨h1, h2, rfl, rfl⟩, Keeps.fr (fun i hi c hc => hf i hi c (F0 i hi c hc)) (plR.nm rfl)⟩
  · have hu0 : s u = none := by
      cases hh : s u with
      | none => rfl
      | some b => rw [F0 u (by simp) b hh] at hu; cases hu
    have hau : At s1 u (.cells true es xs) := At.var (hf u (by simp) _ (AHeap.set_same _ _ _))
    refine ⟨s.set u (.cells true es xs), .inr ⟨u, hu0, rfl, hl, rfl⟩, ?_⟩
    refine Keeps.upd [(u, _)] (fun i hi c hc => ?_) ⟨⟨hau, nm_scal hp⟩, trivial⟩ ?_
    · have hiu : i ≠ u := fun e => by rw [e, hu0] at hc; cases hc
      exact hf i (by simp) c (by rw [AHeap.set_other _ _ hiu]; exact F0 i (by simp) c hc)
    · intro y hy
      simp only [List.mem_toArray, List.mem_cons, List.not_mem_nil, or_false] at hy
      rcases hy with rfl | rfl
      · exact updH_some (.inr (by simp))
      · trivial
attribute [local irreducible] AOps AOpsD AOp AWp put nargs AHeap.set At Free ACall ACallE thenQ blockQ roundQ RetQ RetE Src Gr



/-- A view that is not too great, in memory. -/
structure VAt (s : AHeap) (A B : Option Addr) (n c m d : Nat) (nodes : List Int) (L : List Kn) : Prop where
  nn : n ≤ 100000
  mm : m ≤ 512
  n : ∃ on, NA s (.slice A n c) on nodes
  l : ∃ ol, KA s (.slice B m d) ol L
theorem VAt.fr {s s1 : AHeap} {A B : Option Addr} {n c m d : Nat} {nodes : List Int} {L : List Kn} (h : VAt s A B n c m d nodes L) (F : Fr s1 s []) : VAt s1 A B n c m d nodes L :=
  ⟨h.nn, h.mm, let ⟨on, k⟩ := h.n; ⟨on, k.fr F⟩, let ⟨ol, k⟩ := h.l; ⟨ol, k.fr F⟩⟩
theorem VAt.len {s : AHeap} {A B : Option Addr} {n c m d : Nat} {nodes : List Int} {L : List Kn} (h : VAt s A B n c m d nodes L) : n = nodes.length ∧ m = L.length := by
  obtain ⟨_, hN⟩ := h.n
  obtain ⟨_, hL⟩ := h.l
  obtain ⟨_, _, e⟩ := hN.isl
  obtain ⟨_, _, f⟩ := hL.isl
  injection e with _ e _
  injection f with _ f _
  exact ⟨e, f⟩
theorem boundR_no {s : AHeap} {A B : Option Addr} {n c m d : Nat} {nodes : List Int} {L : List Kn} {a : Int} (h : VAt s A B n c m d nodes L) (hno : chk nodes L a ≠ 0) :
    ACall Try.prog 19 [.agg #[.slice A n c, .slice B m d], .int .i64 a] s (.tuple #[.slice none 0 0, .int .i64 (chk nodes L a)]) s := by
  obtain ⟨on, hN⟩ := h.n
  obtain ⟨ol, hL⟩ := h.l
  have hn := h.nn
  have hm : m ≤ 100000 := by have := h.mm; omega
  refine ACall.make Try.func19 rfl (by kernel_rfl) (by decide) rfl (fun N hN0 => ?_)
  have hT : Top N s := hN0
  have F1 : Fr (s.set N (.cells true 1 [.slice A n c, .slice B m d])) s [] := Fr.new (hT.free (Nat.le_refl _)) (Fr.refl _ _)
  cases hmv : mvB nodes L
  · have hc1 : chk nodes L a = 1 := by unfold chk; rw [if_neg (by rw [hmv]; simp)]
    rw [hc1]
    have c31 := bound_err (hN.fr F1) (hL.fr F1) hn hm hmv

    (repeat' (first | (apply Ab.K.ev; exact ev_) | (apply Ab.K.aops; first | (apply Xg.s; constructor) | (apply Ab.S.guardU; (case hd => rfl); (case hb => (exact ev_; done))) | apply Ab.S.guardG) | (apply Ab.K.aop; first | (apply Ab.O.boxA (l := [.slice A n c, .slice B m d]) N; (case hx => exact ev_); (case hid => exact hT.free (Nat.le_refl _))) | (apply Og.s; constructor)) | (apply Ab.K.gk; first | (apply Xg.s; constructor) | (apply Ab.gY; case hw => assumption) | (apply Ab.gNT; case hw => assumption) | (apply Ab.gNF; case hw => assumption) | ((first | apply Ab.gD | apply Ab.gDN); all_goals (intro _ _; (first | contradiction | (exfalso; omega) | skip)))) | (apply Ab.K.awp; first | (apply Xg.s; constructor)) | (apply Ab.K.at_; exact at_) | (apply Ab.K.acall; first | assumption | exact c31) | (apply Ab.Rg.mk; omega) | (apply Ab.Lt.mk; first | decide | (simp; done) | (simp; omega) | fail) | (apply Ab.Get.mk; first | rfl | rfl) | (apply Ab.Nm.mk; first | exact (show (([.slice A n c, .slice B m d] : List Value).drop 0).take 2 = [.slice A n c, .slice B m d] from rfl) | exact nrm_) | (apply Xg.s; constructor) | (apply Ab.asm; assumption) | rfl | infer_instance | decide))
    all_goals ((first | apply RetQ.ret | apply RetQ.normal); (case he => exact evr_); (case hg => rfl))
    all_goals first | rfl | (apply Keeps.fr; (case h => exact fr_); (case hv => exact plR.nm rfl))
  have hMV := mvB_iff.1 hmv
  have c31 := boundV (hN.fr F1) (hL.fr F1) hn hm hMV
  have bl : (bnd L).length ≤ 512 := by have := bnd_len hMV.2; have := h.mm; have := h.len; omega
  (repeat' (first | (apply Ab.K.ev; exact ev_) | (apply Ab.K.aops; first | (apply Xg.s; constructor) | (apply Ab.S.guardU; (case hd => rfl); (case hb => (exact ev_; done))) | apply Ab.S.guardG) | (apply Ab.K.aop; first | (first | (apply Ab.O.boxA (l := [.slice A n c, .slice B m d]) N; (case hx => exact ev_); (case hid => exact hT.free (Nat.le_refl _))) | (apply Ab.O.callFE; (case ha => exact evs_); (case hc => exact c31))) | (apply Og.s; constructor)) | (apply Ab.K.gk; first | (apply Xg.s; constructor) | (apply Ab.gY; case hw => assumption) | (apply Ab.gNT; case hw => assumption) | (apply Ab.gNF; case hw => assumption) | ((first | apply Ab.gD | apply Ab.gDN); all_goals (intro _ _; (first | contradiction | (exfalso; omega) | skip)))) | (apply Ab.K.awp; first | (apply Xg.s; constructor)) | (apply Ab.K.at_; exact at_) | (apply Ab.K.acall; first | assumption | exact c31) | (apply Ab.Rg.mk; omega) | (apply Ab.Lt.mk; first | decide | (simp; done) | (simp; omega) | fail) | (apply Ab.Get.mk; first | rfl | rfl) | (apply Ab.Nm.mk; first | exact (show (([.slice A n c, .slice B m d] : List Value).drop 0).take 2 = [.slice A n c, .slice B m d] from rfl) | exact nrm_) | (apply Xg.s; constructor) | (apply Ab.asm; assumption) | rfl | infer_instance | decide))
  rintro v2 s2 ⟨w, rfl, hw⟩
  clear c31
  have F2 : Fr s2 s [] := fun i hi c hc => hw.fr i hi c (F1 i hi c hc)
  have a2 : At s2 N (.cells true 1 [.slice A n c, .slice B m d]) := At.var (hw.fr N (by simp) _ (AHeap.set_same _ _ _))
  obtain ⟨C, cc, oe, rfl, hE⟩ := hw.ea rfl
  have c29 : ACall Try.prog 20 [.int .i64 a] s2 (.bool (decide (TP.Node a))) s2 := node29
  have c28 := forest28 hE bl
  rw [hMV.gf] at c28
  have c33 := containsI (x := a) (hN.fr F2) (by omega)
  by_cases ha : TP.Node a
  · rw [decide_eq_true ha] at c29
    cases hfo : foB (bnd L)
    · have hc1 : chk nodes L a = 11 := by unfold chk; rw [if_pos ⟨hmv, ha⟩, if_neg (by rw [hfo]; simp)]
      rw [hc1]
      rw [hfo] at c28
      (repeat' (first | (apply Ab.K.ev; exact ev_) | (apply Ab.K.aops; first | (apply Xg.s; constructor) | (apply Ab.S.guardU; (case hd => rfl); (case hb => (exact ev_; done))) | apply Ab.S.guardG) | (apply Ab.K.aop; first | (apply Og.s; constructor)) | (apply Ab.K.gk; first | (apply Xg.s; constructor) | (apply Ab.gY; case hw => assumption) | (apply Ab.gNT; case hw => assumption) | (apply Ab.gNF; case hw => assumption) | ((first | apply Ab.gD | apply Ab.gDN); all_goals (intro _ _; (first | contradiction | (exfalso; omega) | skip)))) | (apply Ab.K.awp; first | (apply Xg.s; constructor)) | (apply Ab.K.at_; exact at_) | (apply Ab.K.acall; first | assumption | first | exact c28 | exact c29 | exact c33) | (apply Ab.Rg.mk; omega) | (apply Ab.Lt.mk; first | decide | (simp; done) | (simp; omega) | fail) | (apply Ab.Get.mk; first | rfl | rfl) | (apply Ab.Nm.mk; first | exact (show (([.slice A n c, .slice B m d] : List Value).drop 0).take 2 = [.slice A n c, .slice B m d] from rfl) | exact nrm_) | (apply Xg.s; constructor) | (apply Ab.asm; assumption) | rfl | infer_instance | decide))
      all_goals ((first | apply RetQ.ret | apply RetQ.normal); (case he => exact evr_); (case hg => rfl))
      all_goals first | rfl | exact Keeps.fr F2 (plR.nm rfl)
    · rw [hfo] at c28
      by_cases hin : a ∈ nodes
      · exact absurd (chk_of hMV ha (foB_iff.1 hfo) hin) hno
      · have hc1 : chk nodes L a = 4 := by unfold chk; rw [if_pos ⟨hmv, ha⟩, if_pos hfo, if_neg hin]
        rw [hc1]
        rw [decide_eq_false hin] at c33
        (repeat' (first | (apply Ab.K.ev; exact ev_) | (apply Ab.K.aops; first | (apply Xg.s; constructor) | (apply Ab.S.guardU; (case hd => rfl); (case hb => (exact ev_; done))) | apply Ab.S.guardG) | (apply Ab.K.aop; first | (apply Og.s; constructor)) | (apply Ab.K.gk; first | (apply Xg.s; constructor) | (apply Ab.gY; case hw => assumption) | (apply Ab.gNT; case hw => assumption) | (apply Ab.gNF; case hw => assumption) | ((first | apply Ab.gD | apply Ab.gDN); all_goals (intro _ _; (first | contradiction | (exfalso; omega) | skip)))) | (apply Ab.K.awp; first | (apply Xg.s; constructor)) | (apply Ab.K.at_; exact at_) | (apply Ab.K.acall; first | assumption | first | exact c28 | exact c29 | exact c33) | (apply Ab.Rg.mk; omega) | (apply Ab.Lt.mk; first | decide | (simp; done) | (simp; omega) | fail) | (apply Ab.Get.mk; first | rfl | rfl) | (apply Ab.Nm.mk; first | exact (show (([.slice A n c, .slice B m d] : List Value).drop 0).take 2 = [.slice A n c, .slice B m d] from rfl) | exact nrm_) | (apply Xg.s; constructor) | (apply Ab.asm; assumption) | rfl | infer_instance | decide))
        all_goals ((first | apply RetQ.ret | apply RetQ.normal); (case he => exact evr_); (case hg => rfl))
        all_goals first | rfl | exact Keeps.fr F2 (plR.nm rfl)
  · have hc1 : chk nodes L a = 1 := by unfold chk; rw [if_neg (fun h => ha h.2)]
    rw [hc1]
    rw [decide_eq_false ha] at c29
    (repeat' (first | (apply Ab.K.ev; exact ev_) | (apply Ab.K.aops; first | (apply Xg.s; constructor) | (apply Ab.S.guardU; (case hd => rfl); (case hb => (exact ev_; done))) | apply Ab.S.guardG) | (apply Ab.K.aop; first | (apply Og.s; constructor)) | (apply Ab.K.gk; first | (apply Xg.s; constructor) | (apply Ab.gY; case hw => assumption) | (apply Ab.gNT; case hw => assumption) | (apply Ab.gNF; case hw => assumption) | ((first | apply Ab.gD | apply Ab.gDN); all_goals (intro _ _; (first | contradiction | (exfalso; omega) | skip)))) | (apply Ab.K.awp; first | (apply Xg.s; constructor)) | (apply Ab.K.at_; exact at_) | (apply Ab.K.acall; first | assumption | first | exact c28 | exact c29 | exact c33) | (apply Ab.Rg.mk; omega) | (apply Ab.Lt.mk; first | decide | (simp; done) | (simp; omega) | fail) | (apply Ab.Get.mk; first | rfl | rfl) | (apply Ab.Nm.mk; first | exact (show (([.slice A n c, .slice B m d] : List Value).drop 0).take 2 = [.slice A n c, .slice B m d] from rfl) | exact nrm_) | (apply Xg.s; constructor) | (apply Ab.asm; assumption) | rfl | infer_instance | decide))
    all_goals ((first | apply RetQ.ret | apply RetQ.normal); (case he => exact evr_); (case hg => rfl))
    all_goals first | rfl | exact Keeps.fr F2 (plR.nm rfl)
theorem boundR_yes {s : AHeap} {A B : Option Addr} {n c m d : Nat} {nodes : List Int} {L : List Kn} {a : Int} (h : VAt s A B n c m d nodes L) (hyes : chk nodes L a = 0) :
    ACallE Try.prog 19 [.agg #[.slice A n c, .slice B m d], .int .i64 a] s (fun v s' => ∃ w, v = .tuple #[w, .int .i64 0] ∧ NewL s 3 w (bnd L).length (ecs (bnd L)) s') := by
  obtain ⟨on, hN⟩ := h.n
  obtain ⟨ol, hL⟩ := h.l
  have hn := h.nn
  have hm : m ≤ 100000 := by have := h.mm; omega
  obtain ⟨hMV, ha, hfo, hin⟩ := chk_zero hyes
  refine ACallE.make Try.func19 rfl (by kernel_rfl) (by decide) rfl (fun N hN0 => ?_)
  have hT : Top N s := hN0
  have F1 : Fr (s.set N (.cells true 1 [.slice A n c, .slice B m d])) s [] := Fr.new (hT.free (Nat.le_refl _)) (Fr.refl _ _)
  have c31 := boundV (hN.fr F1) (hL.fr F1) hn hm hMV
  have bl : (bnd L).length ≤ 512 := by have := bnd_len hMV.2; have := h.mm; have := h.len; omega
  (repeat' (first | (apply Ab.K.ev; exact ev_) | (apply Ab.K.aops; first | (apply Xg.s; constructor) | (apply Ab.S.guardU; (case hd => rfl); (case hb => (exact ev_; done))) | apply Ab.S.guardG) | (apply Ab.K.aop; first | (first | (apply Ab.O.boxA (l := [.slice A n c, .slice B m d]) N; (case hx => exact ev_); (case hid => exact hT.free (Nat.le_refl _))) | (apply Ab.O.callFE; (case ha => exact evs_); (case hc => exact c31))) | (apply Og.s; constructor)) | (apply Ab.K.gk; first | (apply Xg.s; constructor) | (apply Ab.gY; case hw => assumption) | (apply Ab.gNT; case hw => assumption) | (apply Ab.gNF; case hw => assumption) | ((first | apply Ab.gD | apply Ab.gDN); all_goals (intro _ _; (first | contradiction | (exfalso; omega) | skip)))) | (apply Ab.K.awp; first | (apply Xg.s; constructor)) | (apply Ab.K.at_; exact at_) | (apply Ab.K.acall; first | assumption | first | exact c28 | exact c29 | exact c33) | (apply Ab.Rg.mk; omega) | (apply Ab.Lt.mk; first | decide | (simp; done) | (simp; omega) | fail) | (apply Ab.Get.mk; first | rfl | rfl) | (apply Ab.Nm.mk; first | exact (show (([.slice A n c, .slice B m d] : List Value).drop 0).take 2 = [.slice A n c, .slice B m d] from rfl) | exact nrm_) | (apply Xg.s; constructor) | (apply Ab.asm; assumption) | rfl | infer_instance | decide))
  rintro v2 s2 ⟨w, rfl, hw⟩
  clear c31
  have F2 : Fr s2 s [] := fun i hi c hc => hw.fr i hi c (F1 i hi c hc)
  have a2 : At s2 N (.cells true 1 [.slice A n c, .slice B m d]) := At.var (hw.fr N (by simp) _ (AHeap.set_same _ _ _))
  obtain ⟨C, cc, oe, hwv, hE⟩ := hw.ea rfl
  obtain ⟨s3, hs3, hk3⟩ := hw.keep F1 (ecs_pl _) (Fr.refl s2 []) .i64 0
  subst hwv
  have c29 : ACall Try.prog 20 [.int .i64 a] s2 (.bool (decide (TP.Node a))) s2 := node29
  have c28 := forest28 hE bl
  rw [hMV.gf, foB_iff.2 hfo] at c28
  have c33 := containsI (x := a) (hN.fr F2) (by omega)
  rw [decide_eq_true ha] at c29
  rw [decide_eq_true hin] at c33
  (repeat' (first | (apply Ab.K.ev; exact ev_) | (apply Ab.K.aops; first | (apply Xg.s; constructor) | (apply Ab.S.guardU; (case hd => rfl); (case hb => (exact ev_; done))) | apply Ab.S.guardG) | (apply Ab.K.aop; first | (apply Og.s; constructor)) | (apply Ab.K.gk; first | (apply Xg.s; constructor) | (apply Ab.gY; case hw => assumption) | (apply Ab.gNT; case hw => assumption) | (apply Ab.gNF; case hw => assumption) | ((first | apply Ab.gD | apply Ab.gDN); all_goals (intro _ _; (first | contradiction | (exfalso; omega) | skip)))) | (apply Ab.K.awp; first | (apply Xg.s; constructor)) | (apply Ab.K.at_; exact at_) | (apply Ab.K.acall; first | assumption | first | exact c28 | exact c29 | exact c33) | (apply Ab.Rg.mk; omega) | (apply Ab.Lt.mk; first | decide | (simp; done) | (simp; omega) | fail) | (apply Ab.Get.mk; first | rfl | rfl) | (apply Ab.Nm.mk; first | exact (show (([.slice A n c, .slice B m d] : List Value).drop 0).take 2 = [.slice A n c, .slice B m d] from rfl) | exact nrm_) | (apply Xg.s; constructor) | (apply Ab.asm; assumption) | rfl | infer_instance | decide))
  all_goals ((first | apply RetE.ret | apply RetE.normal); (case he => exact evr_); (case hg => rfl))
  · exact ⟨_, rfl, hs3⟩
  · exact hk3
end Go.Proofs.Ytdbnpghckgmaoaa
