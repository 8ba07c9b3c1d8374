/- texts of this claim, one behind the other: VF. -/
import Derived.Test.YtdbnpghckgmaoaaM10
import Derived.Test.YtdbnpghckgmaoaaM14

/- views: the links that both ends know, by the document. -/
namespace Go.Proofs.Ytdbnpghckgmaoaa
set_option linter.unusedVariables false
set_option linter.unusedSimpArgs false
set_option linter.unusedSectionVars false
open Go.RowKit Ab TP VP
theorem not5 {a b c d e : Prop} (h : ¬ (a ∧ b ∧ c ∧ d ∧ e)) : ¬ a ∨ (a ∧ ¬ b) ∨ (a ∧ b ∧ ¬ c) ∨ (a ∧ b ∧ c ∧ ¬ d) ∨ (a ∧ b ∧ c ∧ d ∧ ¬ e) := by
  by_cases h1 : a
  · by_cases h2 : b
    · by_cases h3 : c
      · by_cases h4 : d
        · exact .inr (.inr (.inr (.inr ⟨h1, h2, h3, h4, fun h5 => h ⟨h1, h2, h3, h4, h5⟩⟩)))
        · exact .inr (.inr (.inr (.inl ⟨h1, h2, h3, h4⟩)))
      · exact .inr (.inr (.inl ⟨h1, h2, h3⟩))
    · exact .inr (.inl ⟨h1, h2⟩)
  · exact .inl h1
theorem fm_snoc {L : List Kn} {x y : Kn} : (L ++ [y]).filterMap (mt x) = L.filterMap (mt x) ++ (mt x y).toList := by
  rw [List.filterMap_append]
  cases h : mt x y <;> simp [h]
theorem Gr_some {s : AHeap} {es N k : Nat} {v : Value} {on : Option Nat} {xs : List Value} (G : Gr s es N v on k xs) (h : on.isSome = true) : ∃ q, v = .slice (some ⟨q, 0, none⟩) k k ∧ At s q (.cells true es xs) ∧ N ≤ q := by
  rcases G with ⟨_, rfl, _, _⟩ | ⟨q, _, h1, h2, _, h3⟩
  · cases h
  · exact ⟨q, h1, h2, h3⟩
attribute [local irreducible] AOps AOpsD AOp AWp put nargs AHeap.set At Free ACall ACallE thenQ blockQ roundQ RetQ RetE Src Gr

set_option maxHeartbeats 8000000 in
theorem inner09 {s : AHeap} {A B : Option Addr} {n c m d : Nat} {ol : Option Nat} {nodes : List Int} {L : List Kn} {o : Nat} (hL : KA s (.slice B m d) ol L) (hm : m ≤ 100000) (hLO : LOk nodes L) (ho : s o = none) :
    ACall Try.prog 28 [.agg #[.slice A n c, .slice B m d]] s (.slice (some ⟨o, 0, none⟩) (inn L).length (inn L).length) (s.set o (.cells true 5 (kcs (inn L)))) := by
  have hml : m = L.length := by obtain ⟨_, _, e⟩ := hL.isl; injection e
  refine ACall.make Try.func28 rfl (by kernel_rfl) (by decide) rfl (fun N hN0 => ?_)
  have hT : Top N s := hN0
  have F1 : Fr (s.set N (.cells true 1 [.slice A n c, .slice B m d])) s [] := Fr.new (hT.free (Nat.le_refl _)) (Fr.refl _ _)
  (repeat' (first | (apply Ab.K.ev; exact ev_) | (apply Ab.K.aops; first | (apply Xg.s; constructor) | (apply Ab.S.guardU; (case hd => rfl); (case hb => (exact ev_; done))) | apply Ab.S.guardG) | (apply Ab.K.aop; first | (first | (apply Ab.O.boxA (l := [.slice A n c, .slice B m d]) N; (case hx => exact ev_); (case hid => exact hT.free (Nat.le_refl _))) | (apply Ab.O.build0 (N + 1) (te := ⟨.struct [(0, 3), (1, 3), (2, 3), (3, 3), (4, 4)], 5, 40, .agg #[.int .i64 0, .int .i64 0, .int .i64 0, .int .i64 0, .bool false]⟩); (case hz => exact ⟨rfl, rfl⟩); (case hid => exact frees_))) | (apply Og.s; constructor)) | (apply Ab.K.gk; first | (apply Xg.s; constructor) | (apply Ab.gY; case hw => assumption) | (apply Ab.gNT; case hw => assumption) | (apply Ab.gNF; case hw => assumption) | ((first | apply Ab.gD | apply Ab.gDN); all_goals (intro _ _; (first | contradiction | (exfalso; omega) | skip)))) | (apply Ab.K.awp; first | (apply Xg.s; constructor)) | (apply Ab.K.at_; exact at_) | (apply Ab.K.acall; first | assumption | fail) | (apply Ab.Rg.mk; omega) | (apply Ab.Lt.mk; first | decide | (simp; done) | (simp; omega) | fail) | (apply Ab.Get.mk; first | rfl | fail) | (apply Ab.Nm.mk; first | exact nrm_) | (apply Xg.s; constructor) | (apply Ab.asm; assumption) | rfl | infer_instance | decide))
  refine AWp.loop (fun kk tm s1 => ∃ (i k M : Nat) (v : Value) (ov : Option Nat) (r : List Kn), Ev tm (.tmp 1) (.pointer (some ⟨N, 0, none⟩)) ∧ Ev tm (.tmp 3) v ∧ Ev tm (.tmp 4) (.int .i64 i) ∧ At s1 N (.cells true 1 [.slice A n c, .slice B m d]) ∧ Gr s1 5 (N + 1) v ov k (kcs r) ∧ ov.isSome = true ∧ k = r.length ∧ r = (L.take i).flatMap (fun x => L.filterMap (mt x)) ∧ Fr s1 s [] ∧ Top M s1 ∧ N + 1 ≤ M ∧ i ≤ m ∧ kk = m - i) m ?_ ?_
  · exact ⟨0, 0, N + 2, _, _, [], by exact ev_, by exact ev_, by exact ev_, by exact at_, Gr.new (q := N + 1) At.hit rfl (Nat.le_refl _), rfl, rfl, rfl, by exact fr_, by exact top_, by omega, by omega, rfl⟩
  clear F1
  rintro kk tm s1 ⟨i, k, M, v, ov, r, e1, e3, e4, a1, G, hov, hk, hr, F, T, hMM, hi, hkk⟩
  by_cases hin : i < m
  · obtain ⟨x, hx⟩ : ∃ x, L[i]? = some x := ⟨_, List.getElem?_eq_getElem (by omega)⟩
    have htk : L.take (i + 1) = L.take i ++ [x] := by rw [List.take_add_one, hx]; rfl
    have hrl : r.length ≤ 100000 := by rw [hr]; exact Nat.le_trans (flatMap_len (inn_one hLO)) (by rw [List.length_take]; omega)
    have h1x := inn_one hLO x
    have hfin : (L.take (i + 1)).flatMap (fun x => L.filterMap (mt x)) = r ++ L.filterMap (mt x) := by rw [htk, List.flatMap_append, ← hr, List.flatMap_cons, List.flatMap_nil, List.append_nil]
    (repeat' (first | (apply Ab.K.ev; exact ev_) | (apply Ab.K.aops; first | (apply Xg.s; constructor) | (apply Ab.S.guardU; (case hd => rfl); (case hb => (exact ev_; done))) | apply Ab.S.guardG) | (apply Ab.K.aop; first | (apply Og.s; constructor)) | (apply Ab.K.gk; first | (apply Xg.s; constructor) | (apply Ab.gY; case hw => assumption) | (apply Ab.gNT; case hw => assumption) | (apply Ab.gNF; case hw => assumption) | ((first | apply Ab.gD | apply Ab.gDN); all_goals (intro _ _; (first | contradiction | (exfalso; omega) | skip)))) | (apply Ab.K.awp; first | (apply Xg.s; constructor)) | (apply Ab.K.at_; exact at_) | (apply Ab.K.acall; first | assumption | fail) | (apply Ab.Rg.mk; omega) | (apply Ab.Lt.mk; first | decide | (simp; done) | (simp; omega) | fail) | (apply Ab.Get.mk; first | rfl | fail) | (apply Ab.Nm.mk; first | exact nrm_) | (apply Xg.s; constructor) | (apply Ab.asm; assumption) | rfl | infer_instance | decide))
    refine AWp.loop (fun k2 tm s2 => ∃ (j k M : Nat) (v : Value) (ov : Option Nat) (r2 : List Kn), Ev tm (.tmp 1) (.pointer (some ⟨N, 0, none⟩)) ∧ Ev tm (.tmp 3) v ∧ Ev tm (.tmp 4) (.int .i64 i) ∧ Ev tm (.tmp 5) (.int .i64 j) ∧ At s2 N (.cells true 1 [.slice A n c, .slice B m d]) ∧ Gr s2 5 (N + 1) v ov k (kcs r2) ∧ ov.isSome = true ∧ k = r2.length ∧ r2 = r ++ (L.take j).filterMap (mt x) ∧ Fr s2 s [] ∧ Top M s2 ∧ N + 1 ≤ M ∧ j ≤ m ∧ k2 = m - j) m ?_ ?_
    · exact ⟨0, k, M, v, ov, r, by exact ev_, by exact ev_, by exact ev_, by exact ev_, a1, G, hov, hk, by simp, F, T, hMM, by omega, rfl⟩
    clear e1 e3 e4 a1 G hov hk hr F T hMM
    rintro k2 tm s2 ⟨j, k, M, v, ov, r2, e1, e3, e4, e5, a1, G, hov, hk, hr2, F, T, hMM, hj, hk2⟩
    have hlt := G.lt T
    have hge := G.from_
    have hr2l : r2.length ≤ 100001 := by
      rw [hr2, List.length_append]
      have := ((List.take_sublist j L).filterMap (mt x)).length_le
      omega
    by_cases hjn : j < m
    · obtain ⟨z, hz⟩ : ∃ z, L[j]? = some z := ⟨_, List.getElem?_eq_getElem (by omega)⟩
      have htkj : L.take (j + 1) = L.take j ++ [z] := by rw [List.take_add_one, hz]; rfl
      have hnext : r ++ (L.take (j + 1)).filterMap (mt x) = r2 ++ (mt x z).toList := by rw [htkj, fm_snoc, hr2, List.append_assoc]
      obtain ⟨q, rw1, cs, rfl, _, _, hq, hcs, hE, _⟩ := (hL.fr F).elt hx
      obtain ⟨q3, rw3, cs3, hqq, _, _, hq3, hcs3, hE3, _⟩ := (hL.fr F).elt hz
      obtain rfl : q = q3 := by have := Option.some.inj hqq; injection this
      have e2 := hq.eq.symm.trans hq3.eq
      injection e2 with e2
      injection e2 with _ _ e2
      subst e2
      have hqM := T.lt hq
      obtain ⟨s3, hs3⟩ : ∃ s3, s3 = (((s2.set M (.cells true 1 (kc ⟨0, 0, 0, 0, false⟩))).set (M + 1) (.cells true 1 (kc ⟨0, 0, 0, 0, false⟩))).set M (.cells true 1 (kc x))).set (M + 1) (.cells true 1 (kc z)) := ⟨_, rfl⟩
      have F3 : Fr s3 s [] := fun i hi c hc => by
        have := hT.lt (At.var hc)
        rw [hs3, AHeap.set_other _ _ (by omega), AHeap.set_other _ _ (by omega), AHeap.set_other _ _ (by omega), AHeap.set_other _ _ (by omega)]; exact F i hi c hc
      have T3 : Top (M + 2) s3 := by rw [hs3]; exact (((T.new).new).set (by omega)).set (by omega)
      have a13 : At s3 N (.cells true 1 [.slice A n c, .slice (some ⟨q, 0, none⟩) m d]) := by rw [hs3]; exact at_
      have aM : At s3 M (.cells true 1 (kc x)) := by rw [hs3]; exact at_
      have aM1 : At s3 (M + 1) (.cells true 1 (kc z)) := by rw [hs3]; exact at_
      have G3 : Gr s3 5 (N + 1) v ov k (kcs r2) := G.of_at fun q e => by
        have := hlt q e
        rw [hs3, AHeap.set_other _ _ (by omega), AHeap.set_other _ _ (by omega), AHeap.set_other _ _ (by omega), AHeap.set_other _ _ (by omega)]




      by_cases hmt : x.node < x.peer ∧ x.node = z.peer ∧ x.peer = z.node ∧ x.w = z.w ∧ x.ss = z.ss
      case neg =>
        have hr3 : r2 = r ++ (L.take (j + 1)).filterMap (mt x) := by rw [hnext]; unfold VP.mt; rw [if_neg hmt]; simp
        rcases not5 hmt with h | h | h | h | h
        all_goals (try obtain ⟨h1, h⟩ := h)
        all_goals (try obtain ⟨h2, h⟩ := h)
        all_goals (try obtain ⟨h3, h⟩ := h)
        all_goals (try obtain ⟨h4, h⟩ := h)
        all_goals
          (repeat' (first | (apply Ab.K.ev; exact ev_) | (apply Ab.K.aops; first | (apply Xg.s; constructor) | (apply Ab.S.guardU; (case hd => rfl); (case hb => (exact ev_; done))) | apply Ab.S.guardG) | (apply Ab.K.aop; first | (first | (apply Ab.O.allocA (l := kc ⟨0, 0, 0, 0, false⟩) M; (case hid => exact free_); (case hp => rfl)) | (apply Ab.O.allocA (l := kc ⟨0, 0, 0, 0, false⟩) (M + 1); (case hid => exact free_); (case hp => rfl)) | (apply Ab.O.storeAll; (case hz => rfl); (case hx => exact ev_); (case hy => exact ev_); (case hs => exact at_); (case hl => rfl); (case hc => rfl))) | (apply Og.s; constructor)) | (apply Ab.K.gk; first | (apply Xg.s; constructor) | (apply Ab.gY; case hw => assumption) | (apply Ab.gNT; case hw => assumption) | (apply Ab.gNF; case hw => assumption) | ((first | apply Ab.gD | apply Ab.gDN); all_goals (intro _ _; (first | contradiction | (exfalso; omega) | skip)))) | (apply Ab.K.aopsD; first | (apply Ab.D.q0t; (case hw => rfl); (case hot => rfl)) | (apply Ab.D.w1t; (case hw => rfl); (case hot => rfl)) | (apply Ab.D.q0; (case hw => rfl); intro _ _) | (apply Ab.D.w1n; (case hw => rfl); intro _ _) | (apply Ab.D.w2n; (case hw => rfl); intro _ _) | (apply Xg.s; constructor) | (apply Ab.D.guardU; (case hd => rfl); (case hb => (exact ev_; done))) | apply Ab.D.guardG) | exact ⟨rfl, rfl⟩ | (apply Ab.K.awp; first | (apply AWp.draw (id := 8) [[], [0], [], [0, 1, 2], [0, 1, 2, 3], [], [5], [], [5, 6, 7], [5, 6, 7, 8], [], [], [0, 1, 2, 3, 4, 10, 11], [0, 1, 2, 3, 4, 5, 6, 7, 8, 9, 10, 11, 12]] [(10, [M]), (11, [M + 1]), (12, [M]), (13, [M + 1])] (by kernel_rfl) (by kernel_rfl) (by simp [apartW, unordB, cC] <;> omega)) | (apply Xg.s; constructor)) | (apply Ab.K.at_; exact at_) | (apply Ab.K.acall; first | assumption | fail) | (apply Ab.Rg.mk; omega) | (apply Ab.Lt.mk; first | decide | (simp; done) | (simp; omega) | first | omega | (show (0 + 5 : Nat) < 5 + 1; decide) | (show (0 + 4 : Nat) < 5; decide)) | (apply Ab.Get.mk; first | rfl | rfl) | (apply Ab.Nm.mk; first | first | exact Eq.trans (congrArg (fun z => List.take _ (List.drop (z * 5) cs)) (Int.toNat_natCast i)) hE | exact Eq.trans (congrArg (fun z => List.take _ (List.drop (z * 5) cs)) (Int.toNat_natCast j)) hE3 | exact (show ((kc x).drop 0).take 5 = kc x from rfl) | exact nrm_) | (apply Xg.s; constructor) | (apply Ab.asm; assumption) | rfl | infer_instance | decide))
          rw [← hs3]
          exact X.roundN (m - (j + 1)) (by omega) ⟨j + 1, k, M + 2, v, ov, r2, by exact ev_, by exact ev_, by exact ev_, by exact ev_, a13, G3, hov, hk, hr3, F3, T3, by omega, by omega, rfl⟩
      case pos =>
        obtain ⟨y, hy⟩ : ∃ y : Kn, y = { x with md := x.md && z.md } := ⟨_, rfl⟩
        have hr3 : r2 ++ [y] = r ++ (L.take (j + 1)).filterMap (mt x) := by rw [hnext]; unfold VP.mt; rw [if_pos hmt, hy]; rfl
        obtain ⟨h1, h2, h3, h4, h5⟩ := hmt
        have hset : ∀ b, b = y.md → (kc x).set (0 + 4) (.bool b) = kc y := fun b hb => by rw [hb, hy]; rfl

        cases hmd : x.md
        case' false => have hmd2 : false = y.md := by rw [hy]; show false = (x.md && z.md); rw [hmd]; rfl
        case' true => have hmd2 : z.md = y.md := by rw [hy]; show z.md = (x.md && z.md); rw [hmd]; rfl
        all_goals
          (repeat' (first | (apply Ab.K.ev; exact ev_) | (apply Ab.K.aops; first | (apply Xg.s; constructor) | (apply Ab.S.guardU; (case hd => rfl); (case hb => (exact ev_; done))) | apply Ab.S.guardG) | (apply Ab.K.aop; first | (first | (apply Ab.O.allocA (l := kc ⟨0, 0, 0, 0, false⟩) M; (case hid => exact free_); (case hp => rfl)) | (apply Ab.O.allocA (l := kc ⟨0, 0, 0, 0, false⟩) (M + 1); (case hid => exact free_); (case hp => rfl)) | (apply Ab.O.storeAll; (case hz => rfl); (case hx => exact ev_); (case hy => exact ev_); (case hs => exact at_); (case hl => rfl); (case hc => rfl)) | (apply Ab.O.build1A (M + 2); (case hx => exact ev_); (case hl => rfl); (case hz => exact ⟨rfl, rfl⟩); (case hes => decide); (case hid => exact free_))) | (apply Og.s; constructor)) | (apply Ab.K.gk; first | (apply Xg.s; constructor) | (apply Ab.gY; case hw => assumption) | (apply Ab.gNT; case hw => assumption) | (apply Ab.gNF; case hw => assumption) | ((first | apply Ab.gD | apply Ab.gDN); all_goals (intro _ _; (first | contradiction | (exfalso; omega) | skip)))) | (apply Ab.K.aopsD; first | (apply Ab.D.q0t; (case hw => rfl); (case hot => rfl)) | (apply Ab.D.w1t; (case hw => rfl); (case hot => rfl)) | (apply Ab.D.q0; (case hw => rfl); intro _ _) | (apply Ab.D.w1n; (case hw => rfl); intro _ _) | (apply Ab.D.w2n; (case hw => rfl); intro _ _) | (apply Xg.s; constructor) | (apply Ab.D.guardU; (case hd => rfl); (case hb => (exact ev_; done))) | apply Ab.D.guardG) | exact ⟨rfl, rfl⟩ | (apply Ab.K.awp; first | (apply AWp.draw (id := 8) [[], [0], [], [0, 1, 2], [0, 1, 2, 3], [], [5], [], [5, 6, 7], [5, 6, 7, 8], [], [], [0, 1, 2, 3, 4, 10, 11], [0, 1, 2, 3, 4, 5, 6, 7, 8, 9, 10, 11, 12]] [(10, [M]), (11, [M + 1]), (12, [M]), (13, [M + 1])] (by kernel_rfl) (by kernel_rfl) (by simp [apartW, unordB, cC] <;> omega)) | (apply Xg.s; constructor)) | (apply Ab.K.at_; exact at_) | (apply Ab.K.acall; first | assumption | fail) | (apply Ab.Rg.mk; omega) | (apply Ab.Lt.mk; first | decide | (simp; done) | (simp; omega) | first | omega | (show (0 + 5 : Nat) < 5 + 1; decide) | (show (0 + 4 : Nat) < 5; decide)) | (apply Ab.Get.mk; first | rfl | rfl) | (apply Ab.Nm.mk; first | first | exact Eq.trans (congrArg (fun z => List.take _ (List.drop (z * 5) cs)) (Int.toNat_natCast i)) hE | exact Eq.trans (congrArg (fun z => List.take _ (List.drop (z * 5) cs)) (Int.toNat_natCast j)) hE3 | exact (show ((kc y).drop 0).take 5 = kc y from rfl) | exact hset _ hmd2 | exact nrm_) | (apply Xg.s; constructor) | (apply Ab.asm; assumption) | rfl | infer_instance | decide))
          rw [← hs3]
          have T4 : Top (M + 2) (s3.set M (.cells true 1 (kc y))) := T3.set (by omega)
          have F4 : Fr (s3.set M (.cells true 1 (kc y))) s [] := fun i hi c hc => by
            have := hT.lt (At.var hc)
            rw [AHeap.set_other _ _ (by omega)]; exact F3 i hi c hc
          have G4 : Gr ((s3.set M (.cells true 1 (kc y))).set (M + 2) (.cells true 5 (kc y))) 5 (N + 1) v ov k (kcs r2) := (G3.set (fun q e => by have := hlt q e; omega)).set (fun q e => by have := hlt q e; omega)
          have b1 : At ((s3.set M (.cells true 1 (kc y))).set (M + 2) (.cells true 5 (kc y))) N (.cells true 1 [.slice A n c, .slice (some ⟨q, 0, none⟩) m d]) := At.miss (by omega) (At.miss (by omega) a13)
          clear G G3
          (apply Ab.O.appendL (M + 3); (case hx => exact ev_); (case hL => exact Ab.Gr.lat (by assumption)); (case hy => exact ev_); (case hs => exact srcAll At.hit rfl); (case hk => rfl); (case hm => decide); (case hl => first | rfl | simp); (case hz => decide); (case hb => omega); (case hfree => exact free_))
          intro s4 g
          have T5 := G4.topN g T4.new
          have F5 := G4.frN g (Fr.new (hT.free (by omega)) F4) (hT.mono (by omega))
          have b5 := Gr.off g b1 (fun q e => by have := hge q e; omega) (by omega)
          rw [show kcs r2 ++ kc y = kcs (r2 ++ [y]) from by rw [kcs_append]; simp [kcs]] at g
          have G5 : Gr s4 5 (N + 1) _ _ (k + 1) _ := Gr.app g (by rw [kcs_length, List.length_append, hk]; rfl) (by omega)
          (repeat' (first | (apply Ab.K.ev; exact ev_) | (apply Ab.K.aops; first | (apply Xg.s; constructor) | (apply Ab.S.guardU; (case hd => rfl); (case hb => (exact ev_; done))) | apply Ab.S.guardG) | (apply Ab.K.aop; first | (apply Og.s; constructor)) | (apply Ab.K.gk; first | (apply Xg.s; constructor) | (apply Ab.gY; case hw => assumption) | (apply Ab.gNT; case hw => assumption) | (apply Ab.gNF; case hw => assumption) | ((first | apply Ab.gD | apply Ab.gDN); all_goals (intro _ _; (first | contradiction | (exfalso; omega) | skip)))) | (apply Ab.K.aopsD; first | (apply Ab.D.q0t; (case hw => rfl); (case hot => rfl)) | (apply Ab.D.w1t; (case hw => rfl); (case hot => rfl)) | (apply Ab.D.q0; (case hw => rfl); intro _ _) | (apply Ab.D.w1n; (case hw => rfl); intro _ _) | (apply Ab.D.w2n; (case hw => rfl); intro _ _) | (apply Xg.s; constructor) | (apply Ab.D.guardU; (case hd => rfl); (case hb => (exact ev_; done))) | apply Ab.D.guardG) | exact ⟨rfl, rfl⟩ | (apply Ab.K.awp; first | (apply AWp.draw (id := 8) [[], [0], [], [0, 1, 2], [0, 1, 2, 3], [], [5], [], [5, 6, 7], [5, 6, 7, 8], [], [], [0, 1, 2, 3, 4, 10, 11], [0, 1, 2, 3, 4, 5, 6, 7, 8, 9, 10, 11, 12]] [(10, [M]), (11, [M + 1]), (12, [M]), (13, [M + 1])] (by kernel_rfl) (by kernel_rfl) (by simp [apartW, unordB, cC] <;> omega)) | (apply Xg.s; constructor)) | (apply Ab.K.at_; exact at_) | (apply Ab.K.acall; first | assumption | fail) | (apply Ab.Rg.mk; omega) | (apply Ab.Lt.mk; first | decide | (simp; done) | (simp; omega) | first | omega | (show (0 + 5 : Nat) < 5 + 1; decide) | (show (0 + 4 : Nat) < 5; decide)) | (apply Ab.Get.mk; first | rfl | rfl) | (apply Ab.Nm.mk; first | first | exact Eq.trans (congrArg (fun z => List.take _ (List.drop (z * 5) cs)) (Int.toNat_natCast i)) hE | exact Eq.trans (congrArg (fun z => List.take _ (List.drop (z * 5) cs)) (Int.toNat_natCast j)) hE3 | exact (show ((kc y).drop 0).take 5 = kc y from rfl) | exact hset _ hmd2 | exact nrm_) | (apply Xg.s; constructor) | (apply Ab.asm; assumption) | rfl | infer_instance | decide))
          exact X.roundN (m - (j + 1)) (by omega) ⟨j + 1, k + 1, M + 4, _, _, r2 ++ [y], by exact ev_, by exact ev_, by exact ev_, by exact ev_, b5, G5, rfl, by rw [List.length_append, hk]; rfl, hr3, F5, T5, by omega, by omega, rfl⟩
    · obtain rfl : j = m := by omega
      rw [hml, List.take_length, ← hfin] at hr2
      (repeat' (first | (apply Ab.K.ev; exact ev_) | (apply Ab.K.aops; first | (apply Xg.s; constructor) | (apply Ab.S.guardU; (case hd => rfl); (case hb => (exact ev_; done))) | apply Ab.S.guardG) | (apply Ab.K.aop; first | (apply Og.s; constructor)) | (apply Ab.K.gk; first | (apply Xg.s; constructor) | (apply Ab.gY; case hw => assumption) | (apply Ab.gNT; case hw => assumption) | (apply Ab.gNF; case hw => assumption) | ((first | apply Ab.gD | apply Ab.gDN); all_goals (intro _ _; (first | contradiction | (exfalso; omega) | skip)))) | (apply Ab.K.awp; first | (apply Xg.s; constructor)) | (apply Ab.K.at_; exact at_) | (apply Ab.K.acall; first | assumption | fail) | (apply Ab.Rg.mk; omega) | (apply Ab.Lt.mk; first | decide | (simp; done) | (simp; omega) | first | omega | (show (0 + 5 : Nat) < 5 + 1; decide) | (show (0 + 4 : Nat) < 5; decide)) | (apply Ab.Get.mk; first | rfl | rfl) | (apply Ab.Nm.mk; first | first | exact Eq.trans (congrArg (fun z => List.take _ (List.drop (z * 5) cs)) (Int.toNat_natCast i)) hE | exact Eq.trans (congrArg (fun z => List.take _ (List.drop (z * 5) cs)) (Int.toNat_natCast j)) hE3 | exact (show ((kc y).drop 0).take 5 = kc y from rfl) | exact hset _ hmd2 | exact nrm_) | (apply Xg.s; constructor) | (apply Ab.asm; assumption) | rfl | infer_instance | decide))
      exact X.roundN (L.length - (i + 1)) (by omega) ⟨i + 1, k, M, v, ov, r2, by exact ev_, by exact ev_, by exact ev_, a1, G, hov, hk, hr2, F, T, hMM, by omega, by omega⟩
  · obtain rfl : i = m := by omega
    have hr2 : r = inn L := by rw [hr, hml, List.take_length]; rfl
    obtain ⟨q, rfl, aq, hq⟩ := Gr_some G hov
    rw [← hr2, ← hk]
    (repeat' (first | (apply Ab.K.ev; exact ev_) | (apply Ab.K.aops; first | (apply Xg.s; constructor) | (apply Ab.S.guardU; (case hd => rfl); (case hb => (exact ev_; done))) | apply Ab.S.guardG) | (apply Ab.K.aop; first | (apply Og.s; constructor)) | (apply Ab.K.gk; first | (apply Xg.s; constructor) | (apply Ab.gY; case hw => assumption) | (apply Ab.gNT; case hw => assumption) | (apply Ab.gNF; case hw => assumption) | ((first | apply Ab.gD | apply Ab.gDN); all_goals (intro _ _; (first | contradiction | (exfalso; omega) | skip)))) | (apply Ab.K.awp; first | (apply Xg.s; constructor)) | (apply Ab.K.at_; exact at_) | (apply Ab.K.acall; first | assumption | fail) | (apply Ab.Rg.mk; omega) | (apply Ab.Lt.mk; first | decide | (simp; done) | (simp; omega) | first | omega | (show (0 + 5 : Nat) < 5 + 1; decide) | (show (0 + 4 : Nat) < 5; decide)) | (apply Ab.Get.mk; first | rfl | rfl) | (apply Ab.Nm.mk; first | first | exact Eq.trans (congrArg (fun z => List.take _ (List.drop (z * 5) cs)) (Int.toNat_natCast i)) hE | exact Eq.trans (congrArg (fun z => List.take _ (List.drop (z * 5) cs)) (Int.toNat_natCast j)) hE3 | exact (show ((kc y).drop 0).take 5 = kc y from rfl) | exact hset _ hmd2 | exact nrm_) | (apply Xg.s; constructor) | (apply Ab.asm; assumption) | rfl | infer_instance | decide))
    apply RetQ.retR (renL (dn [(o, q, .cells true 5 (kcs r))]))
    (case he => exact evr_)
    (case hg => rfl)
    · simp [resV, mpR, mpB, mp1, mpA, renL_hit]
    · exact KeepsR.new1 ho (hT.none (by omega)) F aq (kcs_pl _) rfl
    · simp
end Go.Proofs.Ytdbnpghckgmaoaa
