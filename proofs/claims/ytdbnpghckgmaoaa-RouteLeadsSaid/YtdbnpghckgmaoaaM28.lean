/- texts of this claim, one behind the other: VP, VQ. -/
import Derived.Test.YtdbnpghckgmaoaaM27
import Derived.ChangeKeysEq

/- routes: the next nodes to all others; leaders. -/
namespace Go.Proofs.Ytdbnpghckgmaoaa
set_option linter.unusedVariables false
set_option linter.unusedSimpArgs false
set_option linter.unusedSectionVars false
open Go.RowKit Ab TP VP
theorem ne40 {x y : Operand} {p q : Int × Int} : ABin Try.prog .neq 40 x y (.agg (pc p).toArray) (.agg (pc q).toArray) (.bool (!decide (p = q))) := by
  refine .inr ⟨rfl, rfl, rfl, fun w => ?_⟩
  have u3 := Try.underlying3
  have a3 := Try.isAgg3
  have z3 := Try.sizeOf3
  have hc : Try.prog.cellsOf 3 = 1 := by kernel_rfl
  have hg : Try.prog.eqGuardType Try.prog.depth 40 = false := by kernel_rfl
  have hi := info_of_underlying Try.underlying3
  obtain ⟨i, hi⟩ := hi
  rw [Sem.run_bind, run_eqGuard_agg w _ _ _ _ _ _ hg, Result.andThen_ok, run_neq_struct, show (10000 : Nat) = 9999 + 1 from rfl, run_equalIn_array w 9999 _ _ Try.underlying40 hi, hc]
  obtain ⟨a, b⟩ := p
  obtain ⟨a', b'⟩ := q
  unfold pc
  rw [show List.range 2 = [0, 1] from rfl]
  simp only [Op.eqItems]
  go_simp
  by_cases h1 : a = a' <;> by_cases h2 : b = b' <;> simp [h1, h2]
/-- The list of next nodes in memory. -/
theorem tbl_at {s s' : AHeap} {v : Value} {k : Nat} {l : List (Int × Int)} (h : NewL s 2 v k (pcs l) s') (hk : k = l.length) : ∃ A, v = .slice A k k ∧ ∀ (i : Nat) (p : Int × Int), l[i]? = some p → ∃ q, A = some ⟨q, 0, none⟩ ∧ At s' q (.cells true 2 (pcs l)) := by
  subst hk
  rcases h with ⟨hk, _, rfl, rfl⟩ | ⟨u, _, rfl, _, rfl⟩
  · refine ⟨none, by rw [hk], fun i p hp => ?_⟩
    rw [List.length_eq_zero_iff.1 hk] at hp; simp at hp
  · exact ⟨_, rfl, fun i p _ => ⟨u, rfl, At.hit⟩⟩
theorem tbl_next {nodes : List Int} {K : List Kn} {a : Int} {j : Nat} (hj : j < 64) (h1 : hopE nodes K a ((j + 1 : Nat) : Int) = 0) (h2 : ((j + 1 : Nat) : Int) ≠ a) : (tblN nodes K a 64)[(tblN nodes K a j).length]? = some (((j + 1 : Nat) : Int), hopV nodes K a ((j + 1 : Nat) : Int)) := by
  obtain ⟨t, ht⟩ := tblN_pre (nodes := nodes) (L := K) (a := a) (k := j + 1) (j := 64) (by omega)
  rw [ht, tblN_yes h1 h2]; simp
attribute [local irreducible] AOps AOpsD AOp AWp put nargs AHeap.set At Free ACall ACallE thenQ blockQ roundQ RetQ RetE Src Gr side lkN chk hopE hopV ldr nxt VP.bnd inn mvB reachB lkB foB tblN vlinks




set_option maxHeartbeats 4000000 in
theorem law6 {s : AHeap} {A B : Option Addr} {n c m d : Nat} {on ol : Option Nat} {nodes : List Int} {K : List Kn} {a : Int} (hN : NA s (.slice A n c) on nodes) (hL : KA s (.slice B m d) ol K) :
    ACall Try.prog 6 [.agg #[.slice A n c, .slice B m d], .int .i64 a] s (.bool true) s := by
  refine ACall.make Try.func6 rfl (by kernel_rfl) (by decide) rfl (fun N hN0 => ?_)
  have hT : Top N s := hN0
  have F1 : Fr (s.set N (.cells true 1 [.slice A n c, .slice B m d])) s [] := Fr.new (hT.free (Nat.le_refl _)) (Fr.refl _ _)
  have aw : ∀ s : AHeap, ACall Try.prog 9 [] s (.bool true) s := fun s => awake09
  have c8 : ∀ s : AHeap, ACall Try.prog 8 [.agg #[.slice A n c, .slice B m d]] s (.bool (lightB n m)) s := fun s => lightL
  cases hli : lightB n m
  · rw [hli] at c8
    (repeat' (first | (apply Ab.K.ev; exact ev_) | (apply Ab.K.aops; first | (apply Xg.s; constructor) | (apply Ab.S.guardU; (case hd => rfl); (case hb => (exact ev_; done))) | apply Ab.S.guardG) | (apply Ab.K.aop; first | (apply Ab.O.boxA (l := [.slice A n c, .slice B m d]) N; (case hx => exact ev_); (case hid => exact hT.free (Nat.le_refl _))) | (apply Og.s; constructor)) | (apply Ab.K.gk; first | (apply Xg.s; constructor) | (apply Ab.gY; case hw => assumption) | (apply Ab.gNT; case hw => assumption) | (apply Ab.gNF; case hw => assumption) | ((first | apply Ab.gD | apply Ab.gDN); all_goals (intro _ _; (first | contradiction | (exfalso; omega) | skip)))) | (apply Ab.K.awp; first | (apply Xg.s; constructor)) | (apply Ab.K.at_; exact at_) | (apply Ab.K.acall; first | assumption | first | exact c8 _ | exact aw _) | (apply Ab.Rg.mk; omega) | (apply Ab.Lt.mk; first | decide | (simp; done) | (simp; omega) | fail) | (apply Ab.Get.mk; first | rfl | rfl) | (apply Ab.Nm.mk; first | exact (show (([.slice A n c, .slice B m d] : List Value).drop 0).take 2 = [.slice A n c, .slice B m d] from rfl) | exact nrm_) | (apply Xg.s; constructor) | (apply Ab.asm; assumption) | rfl | infer_instance | decide))
    all_goals ((first | apply RetQ.ret | apply RetQ.normal); (case he => exact evr_); (case hg => rfl))
    all_goals first | rfl | (apply Keeps.fr; (case h => exact fr_); (case hv => exact plR.nm rfl))
  rw [hli] at c8
  have hV0 := vat hN hL hli
  have hV := hV0.fr F1
  by_cases hck : chk nodes K a = 0
  case neg =>
    have c14 := check11 (a := a) hV
    have c17 := table_no hV hck
    (repeat' (first | (apply Ab.K.ev; exact ev_) | (apply Ab.K.aops; first | (apply Xg.s; constructor) | (apply Ab.S.guardU; (case hd => rfl); (case hb => (exact ev_; done))) | apply Ab.S.guardG) | (apply Ab.K.aop; first | (apply Ab.O.boxA (l := [.slice A n c, .slice B m d]) N; (case hx => exact ev_); (case hid => exact hT.free (Nat.le_refl _))) | (apply Og.s; constructor)) | (apply Ab.K.gk; first | (apply Xg.s; constructor) | (apply Ab.gY; case hw => assumption) | (apply Ab.gNT; case hw => assumption) | (apply Ab.gNF; case hw => assumption) | ((first | apply Ab.gD | apply Ab.gDN); all_goals (intro _ _; (first | contradiction | (exfalso; omega) | skip)))) | (apply Ab.K.awp; first | (apply Xg.s; constructor)) | (apply Ab.K.at_; exact at_) | (apply Ab.K.acall; first | assumption | first | exact c8 _ | exact c14 | exact c17 | exact aw _) | (apply Ab.Rg.mk; omega) | (apply Ab.Lt.mk; first | decide | (simp; done) | (simp; omega) | fail) | (apply Ab.Get.mk; first | rfl | rfl) | (apply Ab.Nm.mk; first | exact (show (([.slice A n c, .slice B m d] : List Value).drop 0).take 2 = [.slice A n c, .slice B m d] from rfl) | exact nrm_) | (apply Xg.s; constructor) | (apply Ab.asm; assumption) | rfl | infer_instance | decide))
    all_goals ((first | apply RetQ.ret | apply RetQ.normal); (case he => exact evr_); (case hg => rfl))
    all_goals first | rfl | (apply Keeps.fr; (case h => exact fr_); (case hv => exact plR.nm rfl))
  have c17 := table_yes hV hck

  (repeat' (first | (apply Ab.K.ev; exact ev_) | (apply Ab.K.aops; first | (apply Xg.s; constructor) | (apply Ab.S.guardU; (case hd => rfl); (case hb => (exact ev_; done))) | apply Ab.S.guardG) | (apply Ab.K.aop; first | (first | (apply Ab.O.boxA (l := [.slice A n c, .slice B m d]) N; (case hx => exact ev_); (case hid => exact hT.free (Nat.le_refl _))) | (apply Ab.O.callFE; (case ha => exact evs_); (case hc => exact c17))) | (apply Og.s; constructor)) | (apply Ab.K.gk; first | (apply Xg.s; constructor) | (apply Ab.gY; case hw => assumption) | (apply Ab.gNT; case hw => assumption) | (apply Ab.gNF; case hw => assumption) | ((first | apply Ab.gD | apply Ab.gDN); all_goals (intro _ _; (first | contradiction | (exfalso; omega) | skip)))) | (apply Ab.K.awp; first | (apply Xg.s; constructor)) | (apply Ab.K.at_; exact at_) | (apply Ab.K.acall; first | assumption | first | exact c8 _ | exact aw _) | (apply Ab.Rg.mk; omega) | (apply Ab.Lt.mk; first | decide | (simp; done) | (simp; omega) | fail) | (apply Ab.Get.mk; first | rfl | rfl) | (apply Ab.Nm.mk; first | exact (show (([.slice A n c, .slice B m d] : List Value).drop 0).take 2 = [.slice A n c, .slice B m d] from rfl) | exact nrm_) | (apply Xg.s; constructor) | (apply Ab.asm; assumption) | rfl | infer_instance | decide))
  rintro v2 s2 ⟨w, rfl, hw⟩
  clear c17
  have F2 : Fr s2 s [] := fun i hi c hc => hw.fr i hi c (F1 i hi c hc)
  have a2 : At s2 N (.cells true 1 [.slice A n c, .slice B m d]) := At.var (hw.fr N (by simp) _ (AHeap.set_same _ _ _))
  obtain ⟨C, rfl, hC⟩ := tbl_at hw rfl
  have hV2 := hV0.fr F2
  have c14 := check11 (a := a) hV2
  rw [hck] at c14
  have hl64 : (tblN nodes K a 64).length ≤ 64 := tblN_len
  (repeat' (first | (apply Ab.K.ev; exact ev_) | (apply Ab.K.aops; first | (apply Xg.s; constructor) | (apply Ab.S.guardU; (case hd => rfl); (case hb => (exact ev_; done))) | apply Ab.S.guardG) | (apply Ab.K.aop; first | (apply Og.s; constructor)) | (apply Ab.K.gk; first | (apply Xg.s; constructor) | (apply Ab.gY; case hw => assumption) | (apply Ab.gNT; case hw => assumption) | (apply Ab.gNF; case hw => assumption) | ((first | apply Ab.gD | apply Ab.gDN); all_goals (intro _ _; (first | contradiction | (exfalso; omega) | skip)))) | (apply Ab.K.awp; first | (apply Xg.s; constructor)) | (apply Ab.K.at_; exact at_) | (apply Ab.K.acall; first | assumption | first | exact c14 | exact aw _) | (apply Ab.Rg.mk; omega) | (apply Ab.Lt.mk; first | decide | (simp; done) | (simp; omega) | fail) | (apply Ab.Get.mk; first | rfl | rfl) | (apply Ab.Nm.mk; first | exact (show (([.slice A n c, .slice B m d] : List Value).drop 0).take 2 = [.slice A n c, .slice B m d] from rfl) | exact nrm_) | (apply Xg.s; constructor) | (apply Ab.asm; assumption) | rfl | infer_instance | decide))
  clear c14 c8 hw
  refine AWp.loop (fun kk tm s1 => ∃ j : Nat, Ev tm (.tmp 1) (.int .i64 a) ∧ Ev tm (.tmp 2) (.pointer (some ⟨N, 0, none⟩)) ∧ Ev tm (.tmp 5) (.slice C (tblN nodes K a 64).length (tblN nodes K a 64).length) ∧ Ev tm (.tmp 6) (.int .i64 0) ∧ Ev tm (.tmp 8) (.int .i64 (tblN nodes K a j).length) ∧ Ev tm (.tmp 9) (.int .i64 ((j + 1 : Nat) : Int)) ∧ s1 = s2 ∧ j ≤ 64 ∧ kk = 64 - j) 64 ?_ ?_
  · exact ⟨0, by exact ev_, by exact ev_, by exact ev_, by exact ev_, by rw [tblN_zero]; exact ev_, by exact ev_, rfl, by omega, rfl⟩
  rintro kk tm s1 ⟨j, e1, e2, e5, e6, e8, e9, rfl, hj, hkk⟩
  have hlj : (tblN nodes K a j).length ≤ j := tblN_len
  by_cases hjn : j < 64
  · have c11 := hop11 (a := a) (b := ((j + 1 : Nat) : Int)) hV2
    by_cases h1 : hopE nodes K a ((j + 1 : Nat) : Int) = 0
    case neg =>
      have hr1 := tblN_no (nodes := nodes) (L := K) (a := a) (k := j) (fun h => h1 h.1)
      (repeat' (first | (apply Ab.K.ev; exact ev_) | (apply Ab.K.aops; first | (apply Xg.s; constructor) | (apply Ab.S.guardU; (case hd => rfl); (case hb => (exact ev_; done))) | apply Ab.S.guardG) | (apply Ab.K.aop; first | (apply Og.s; constructor)) | (apply Ab.K.gk; first | (apply Xg.s; constructor) | (apply Ab.gY; case hw => assumption) | (apply Ab.gNT; case hw => assumption) | (apply Ab.gNF; case hw => assumption) | ((first | apply Ab.gD | apply Ab.gDN); all_goals (intro _ _; (first | contradiction | (exfalso; omega) | skip)))) | (apply Ab.K.awp; first | (apply Xg.s; constructor)) | (apply Ab.K.at_; exact at_) | (apply Ab.K.acall; first | assumption | exact c11) | (apply Ab.Rg.mk; omega) | (apply Ab.Lt.mk; first | decide | (simp; done) | (simp; omega) | fail) | (apply Ab.Get.mk; first | rfl | rfl) | (apply Ab.Nm.mk; first | exact (show (([.slice A n c, .slice B m d] : List Value).drop 0).take 2 = [.slice A n c, .slice B m d] from rfl) | exact nrm_) | (apply Xg.s; constructor) | (apply Ab.asm; assumption) | rfl | infer_instance | decide))
      exact X.roundN (64 - (j + 1)) (by omega) ⟨j + 1, by exact ev_, by exact ev_, by exact ev_, by exact ev_, by rw [hr1]; exact ev_, by exact ev_, rfl, by omega, rfl⟩
    rw [h1] at c11
    by_cases h2 : ((j + 1 : Nat) : Int) = a
    · have hr1 := tblN_no (nodes := nodes) (L := K) (a := a) (k := j) (fun h => h.2 h2)
      (repeat' (first | (apply Ab.K.ev; exact ev_) | (apply Ab.K.aops; first | (apply Xg.s; constructor) | (apply Ab.S.guardU; (case hd => rfl); (case hb => (exact ev_; done))) | apply Ab.S.guardG) | (apply Ab.K.aop; first | (apply Og.s; constructor)) | (apply Ab.K.gk; first | (apply Xg.s; constructor) | (apply Ab.gY; case hw => assumption) | (apply Ab.gNT; case hw => assumption) | (apply Ab.gNF; case hw => assumption) | ((first | apply Ab.gD | apply Ab.gDN); all_goals (intro _ _; (first | contradiction | (exfalso; omega) | skip)))) | (apply Ab.K.awp; first | (apply Xg.s; constructor)) | (apply Ab.K.at_; exact at_) | (apply Ab.K.acall; first | assumption | exact c11) | (apply Ab.Rg.mk; omega) | (apply Ab.Lt.mk; first | decide | (simp; done) | (simp; omega) | fail) | (apply Ab.Get.mk; first | rfl | rfl) | (apply Ab.Nm.mk; first | exact (show (([.slice A n c, .slice B m d] : List Value).drop 0).take 2 = [.slice A n c, .slice B m d] from rfl) | exact nrm_) | (apply Xg.s; constructor) | (apply Ab.asm; assumption) | rfl | infer_instance | decide))
      exact X.roundN (64 - (j + 1)) (by omega) ⟨j + 1, by exact ev_, by exact ev_, by exact ev_, by exact ev_, by rw [hr1]; exact ev_, by exact ev_, rfl, by omega, rfl⟩
    have hr1 := tblN_yes (nodes := nodes) (L := K) (a := a) (k := j) h1 h2
    have hx := tbl_next hjn h1 h2
    have hxl := (List.getElem?_eq_some_iff.1 hx).1
    have hge : ¬ ((tblN nodes K a j).length : Int) ≥ ((tblN nodes K a 64).length : Int) := by omega
    obtain ⟨q, rfl, aq⟩ := hC _ _ hx
    have gp := pcs_get hx
    have hpl := pcs_length (tblN nodes K a 64)
    have q1 : ∀ x y, ABin Try.prog .neq 40 x y (.agg (pc (((j + 1 : Nat) : Int), hopV nodes K a ((j + 1 : Nat) : Int))).toArray) (.agg (pc (((j + 1 : Nat) : Int), hopV nodes K a ((j + 1 : Nat) : Int))).toArray) (.bool false) := fun x y => by have := ne40 (x := x) (y := y) (p := (((j + 1 : Nat) : Int), hopV nodes K a ((j + 1 : Nat) : Int))) (q := (((j + 1 : Nat) : Int), hopV nodes K a ((j + 1 : Nat) : Int))); rwa [decide_eq_true rfl] at this


    (repeat' (first | (apply Ab.K.ev; exact ev_) | (apply Ab.K.aops; first | (apply Xg.s; constructor) | (apply Ab.S.guardU; (case hd => rfl); (case hb => (exact ev_; done))) | apply Ab.S.guardG) | (apply Ab.K.aop; first | (apply Ab.O.bin; (case hx => exact ev_); (case hy => exact ev_); (case hv => exact q1 _ _)) | (apply Og.s; constructor)) | (apply Ab.K.gk; first | (apply Xg.s; constructor) | (apply Ab.gY; case hw => assumption) | (apply Ab.gNT; case hw => assumption) | (apply Ab.gNF; case hw => assumption) | ((first | apply Ab.gD | apply Ab.gDN); all_goals (intro _ _; (first | contradiction | (exfalso; omega) | skip)))) | (apply Ab.K.awp; first | (apply Xg.s; constructor)) | (apply Ab.K.at_; exact at_) | (apply Ab.K.acall; first | assumption | exact c11) | (apply Ab.Rg.mk; omega) | (apply Ab.Lt.mk; first | decide | (simp; done) | (simp; omega) | (rw [pcs_length]; omega)) | (apply Ab.Get.mk; first | rfl | rfl) | (apply Ab.Nm.mk; first | first | exact (show (([.slice A n c, .slice B m d] : List Value).drop 0).take 2 = [.slice A n c, .slice B m d] from rfl) | exact Eq.trans (congrArg (fun z => List.take _ (List.drop (z * 2) _)) (Int.toNat_natCast (tblN nodes K a j).length)) gp | exact nrm_) | (apply Xg.s; constructor) | (apply Ab.asm; assumption) | rfl | infer_instance | decide))
    exact X.roundN (64 - (j + 1)) (by omega) ⟨j + 1, by exact ev_, by exact ev_, by exact ev_, by exact ev_, by rw [hr1, List.length_append]; exact ev_, by exact ev_, rfl, by omega, rfl⟩
  · obtain rfl : j = 64 := by omega
    (repeat' (first | (apply Ab.K.ev; exact ev_) | (apply Ab.K.aops; first | (apply Xg.s; constructor) | (apply Ab.S.guardU; (case hd => rfl); (case hb => (exact ev_; done))) | apply Ab.S.guardG) | (apply Ab.K.aop; first | (apply Og.s; constructor)) | (apply Ab.K.gk; first | (apply Xg.s; constructor) | (apply Ab.gY; case hw => assumption) | (apply Ab.gNT; case hw => assumption) | (apply Ab.gNF; case hw => assumption) | ((first | apply Ab.gD | apply Ab.gDN); all_goals (intro _ _; (first | contradiction | (exfalso; omega) | skip)))) | (apply Ab.K.awp; first | (apply Xg.s; constructor)) | (apply Ab.K.at_; exact at_) | (apply Ab.K.acall; first | assumption | exact aw _) | (apply Ab.Rg.mk; omega) | (apply Ab.Lt.mk; first | decide | (simp; done) | (simp; omega) | (rw [pcs_length]; omega)) | (apply Ab.Get.mk; first | rfl | rfl) | (apply Ab.Nm.mk; first | first | exact (show (([.slice A n c, .slice B m d] : List Value).drop 0).take 2 = [.slice A n c, .slice B m d] from rfl) | exact Eq.trans (congrArg (fun z => List.take _ (List.drop (z * 2) _)) (Int.toNat_natCast (tblN nodes K a j).length)) gp | exact nrm_) | (apply Xg.s; constructor) | (apply Ab.asm; assumption) | rfl | infer_instance | decide))
    all_goals ((first | apply RetQ.ret | apply RetQ.normal); (case he => exact evr_); (case hg => rfl))
    all_goals first | rfl | exact Keeps.fr F2 (plR.nm rfl)
end Go.Proofs.Ytdbnpghckgmaoaa

/- routes: a leader leads itself, and is the least of its own. -/
namespace Go.Proofs.Ytdbnpghckgmaoaa
set_option linter.unusedVariables false
set_option linter.unusedSimpArgs false
set_option linter.unusedSectionVars false
open Go.RowKit Ab TP VP
theorem lead_ok {nodes : List Int} {K : List Kn} {a x : Int} (hck : chk nodes K a = 0) (hc : Conn (bnd K) a x) : TP.Node x ∧ chk nodes K x = 0 ∧ ldr nodes K x = ldr nodes K a ∧ ldr nodes K a ≤ x := by
  obtain ⟨hMV, ha, hfo, hin⟩ := chk_zero hck
  have hx := Conn.node (Good.node hMV.good) ha hc
  obtain ⟨p, hp⟩ := Way.ex hc
  have hxN := way_in hMV hp hin x hp.mem_last
  have hcx := chk_of hMV hx hfo hxN
  refine ⟨hx, hcx, ?_, ?_⟩
  · rw [ldr_ok hcx, ldr_ok hck, side_conn ha hx hc]
  · rw [ldr_ok hck]
    exact head_le lkN_sorted ((side_mem (Good.node hMV.good) ha).2 hc)
theorem lead_self {nodes : List Int} {K : List Kn} {a : Int} (hck : chk nodes K a = 0) : Conn (bnd K) a (ldr nodes K a) := by
  obtain ⟨hMV, ha, hfo, hin⟩ := chk_zero hck
  rw [ldr_ok hck]
  exact (side_mem (Good.node hMV.good) ha).1 (head_mem ((side_mem (Good.node hMV.good) ha (x := a)).2 (.refl a)))
attribute [local irreducible] AOps AOpsD AOp AWp put nargs AHeap.set At Free ACall ACallE thenQ blockQ roundQ RetQ RetE Src Gr side lkN chk hopE hopV ldr nxt VP.bnd inn mvB reachB lkB foB tblN vlinks




set_option maxHeartbeats 4000000 in
theorem law7 {s : AHeap} {A B : Option Addr} {n c m d : Nat} {on ol : Option Nat} {nodes : List Int} {K : List Kn} {a : Int} (hN : NA s (.slice A n c) on nodes) (hL : KA s (.slice B m d) ol K) :
    ACall Try.prog 7 [.agg #[.slice A n c, .slice B m d], .int .i64 a] s (.bool true) s := by
  refine ACall.make Try.func7 rfl (by kernel_rfl) (by decide) rfl (fun N hN0 => ?_)
  have hT : Top N s := hN0
  have F1 : Fr (s.set N (.cells true 1 [.slice A n c, .slice B m d])) s [] := Fr.new (hT.free (Nat.le_refl _)) (Fr.refl _ _)
  have aw : ∀ s : AHeap, ACall Try.prog 9 [] s (.bool true) s := fun s => awake09
  have c8 : ∀ s : AHeap, ACall Try.prog 8 [.agg #[.slice A n c, .slice B m d]] s (.bool (lightB n m)) s := fun s => lightL
  cases hli : lightB n m
  · rw [hli] at c8
    (repeat' (first | (apply Ab.K.ev; exact ev_) | (apply Ab.K.aops; first | (apply Xg.s; constructor) | (apply Ab.S.guardU; (case hd => rfl); (case hb => (exact ev_; done))) | apply Ab.S.guardG) | (apply Ab.K.aop; first | (apply Ab.O.boxA (l := [.slice A n c, .slice B m d]) N; (case hx => exact ev_); (case hid => exact hT.free (Nat.le_refl _))) | (apply Og.s; constructor)) | (apply Ab.K.gk; first | (apply Xg.s; constructor) | (apply Ab.gY; case hw => assumption) | (apply Ab.gNT; case hw => assumption) | (apply Ab.gNF; case hw => assumption) | ((first | apply Ab.gD | apply Ab.gDN); all_goals (intro _ _; (first | contradiction | (exfalso; omega) | skip)))) | (apply Ab.K.awp; first | (apply Xg.s; constructor)) | (apply Ab.K.at_; exact at_) | (apply Ab.K.acall; first | assumption | first | exact c8 _ | exact aw _) | (apply Ab.Rg.mk; omega) | (apply Ab.Lt.mk; first | decide | (simp; done) | (simp; omega) | fail) | (apply Ab.Get.mk; first | rfl | rfl) | (apply Ab.Nm.mk; first | exact (show (([.slice A n c, .slice B m d] : List Value).drop 0).take 2 = [.slice A n c, .slice B m d] from rfl) | exact nrm_) | (apply Xg.s; constructor) | (apply Ab.asm; assumption) | rfl | infer_instance | decide))
    all_goals ((first | apply RetQ.ret | apply RetQ.normal); (case he => exact evr_); (case hg => rfl))
    all_goals first | rfl | (apply Keeps.fr; (case h => exact fr_); (case hv => exact plR.nm rfl))
  rw [hli] at c8
  have hV0 := vat hN hL hli
  have hV := hV0.fr F1
  have c14 := check11 (a := a) hV
  by_cases hck : chk nodes K a = 0
  case neg =>
    (repeat' (first | (apply Ab.K.ev; exact ev_) | (apply Ab.K.aops; first | (apply Xg.s; constructor) | (apply Ab.S.guardU; (case hd => rfl); (case hb => (exact ev_; done))) | apply Ab.S.guardG) | (apply Ab.K.aop; first | (apply Ab.O.boxA (l := [.slice A n c, .slice B m d]) N; (case hx => exact ev_); (case hid => exact hT.free (Nat.le_refl _))) | (apply Og.s; constructor)) | (apply Ab.K.gk; first | (apply Xg.s; constructor) | (apply Ab.gY; case hw => assumption) | (apply Ab.gNT; case hw => assumption) | (apply Ab.gNF; case hw => assumption) | ((first | apply Ab.gD | apply Ab.gDN); all_goals (intro _ _; (first | contradiction | (exfalso; omega) | skip)))) | (apply Ab.K.awp; first | (apply Xg.s; constructor)) | (apply Ab.K.at_; exact at_) | (apply Ab.K.acall; first | assumption | first | exact c8 _ | exact c14 | exact aw _) | (apply Ab.Rg.mk; omega) | (apply Ab.Lt.mk; first | decide | (simp; done) | (simp; omega) | fail) | (apply Ab.Get.mk; first | rfl | rfl) | (apply Ab.Nm.mk; first | exact (show (([.slice A n c, .slice B m d] : List Value).drop 0).take 2 = [.slice A n c, .slice B m d] from rfl) | exact nrm_) | (apply Xg.s; constructor) | (apply Ab.asm; assumption) | rfl | infer_instance | decide))
    all_goals ((first | apply RetQ.ret | apply RetQ.normal); (case he => exact evr_); (case hg => rfl))
    all_goals first | rfl | (apply Keeps.fr; (case h => exact fr_); (case hv => exact plR.nm rfl))
  rw [hck] at c14
  have c12 := leaderR (a := a) hV
  have c12b := leaderR (a := ldr nodes K a) hV
  obtain ⟨_, k1, k2, _⟩ := lead_ok hck (lead_self hck)
  obtain ⟨_, _, _, k3⟩ := lead_ok hck (.refl a)
  rw [hck] at c12
  rw [k1, k2] at c12b
  have c17 := table_yes hV hck

  (repeat' (first | (apply Ab.K.ev; exact ev_) | (apply Ab.K.aops; first | (apply Xg.s; constructor) | (apply Ab.S.guardU; (case hd => rfl); (case hb => (exact ev_; done))) | apply Ab.S.guardG) | (apply Ab.K.aop; first | (first | (apply Ab.O.boxA (l := [.slice A n c, .slice B m d]) N; (case hx => exact ev_); (case hid => exact hT.free (Nat.le_refl _))) | (apply Ab.O.callFE; (case ha => exact evs_); (case hc => exact c17))) | (apply Og.s; constructor)) | (apply Ab.K.gk; first | (apply Xg.s; constructor) | (apply Ab.gY; case hw => assumption) | (apply Ab.gNT; case hw => assumption) | (apply Ab.gNF; case hw => assumption) | ((first | apply Ab.gD | apply Ab.gDN); all_goals (intro _ _; (first | contradiction | (exfalso; omega) | skip)))) | (apply Ab.K.awp; first | (apply Xg.s; constructor)) | (apply Ab.K.at_; exact at_) | (apply Ab.K.acall; first | assumption | first | exact c8 _ | exact c14 | exact c12 | exact c12b | exact aw _) | (apply Ab.Rg.mk; omega) | (apply Ab.Lt.mk; first | decide | (simp; done) | (simp; omega) | fail) | (apply Ab.Get.mk; first | rfl | rfl) | (apply Ab.Nm.mk; first | exact (show (([.slice A n c, .slice B m d] : List Value).drop 0).take 2 = [.slice A n c, .slice B m d] from rfl) | exact nrm_) | (apply Xg.s; constructor) | (apply Ab.asm; assumption) | rfl | infer_instance | decide))
  rintro v2 s2 ⟨w, rfl, hw⟩
  clear c17 c12 c12b c14 c8
  have F2 : Fr s2 s [] := fun i hi c hc => hw.fr i hi c (F1 i hi c hc)
  have a2 : At s2 N (.cells true 1 [.slice A n c, .slice B m d]) := At.var (hw.fr N (by simp) _ (AHeap.set_same _ _ _))
  obtain ⟨C, rfl, hC⟩ := tbl_at hw rfl
  have hV2 := hV0.fr F2
  have hl64 : (tblN nodes K a 64).length ≤ 64 := tblN_len
  obtain ⟨k, hk⟩ : ∃ k, k = ldr nodes K a := ⟨_, rfl⟩
  rw [← hk] at k2 k3 ⊢
  have hka : ¬ k > a := by omega
  (repeat' (first | (apply Ab.K.ev; exact ev_) | (apply Ab.K.aops; first | (apply Xg.s; constructor) | (apply Ab.S.guardU; (case hd => rfl); (case hb => (exact ev_; done))) | apply Ab.S.guardG) | (apply Ab.K.aop; first | (apply Og.s; constructor)) | (apply Ab.K.gk; first | (apply Xg.s; constructor) | (apply Ab.gY; case hw => assumption) | (apply Ab.gNT; case hw => assumption) | (apply Ab.gNF; case hw => assumption) | ((first | apply Ab.gD | apply Ab.gDN); all_goals (intro _ _; (first | contradiction | (exfalso; omega) | skip)))) | (apply Ab.K.awp; first | (apply Xg.s; constructor)) | (apply Ab.K.at_; exact at_) | (apply Ab.K.acall; first | assumption | first | exact c8 _ | exact c14 | exact c12 | exact c12b | exact aw _) | (apply Ab.Rg.mk; omega) | (apply Ab.Lt.mk; first | decide | (simp; done) | (simp; omega) | fail) | (apply Ab.Get.mk; first | rfl | rfl) | (apply Ab.Nm.mk; first | exact (show (([.slice A n c, .slice B m d] : List Value).drop 0).take 2 = [.slice A n c, .slice B m d] from rfl) | exact nrm_) | (apply Xg.s; constructor) | (apply Ab.asm; assumption) | rfl | infer_instance | decide))
  clear hw
  refine AWp.loop (fun kk tm s1 => ∃ i : Nat, Ev tm (.tmp 1) (.int .i64 a) ∧ Ev tm (.tmp 2) (.pointer (some ⟨N, 0, none⟩)) ∧ Ev tm (.tmp 5) (.int .i64 k) ∧ Ev tm (.tmp 9) (.slice C (tblN nodes K a 64).length (tblN nodes K a 64).length) ∧ Ev tm (.tmp 11) (.int .i64 i) ∧ s1 = s2 ∧ i ≤ (tblN nodes K a 64).length ∧ kk = (tblN nodes K a 64).length - i) (tblN nodes K a 64).length ?_ ?_
  · exact ⟨0, by exact ev_, by exact ev_, by exact ev_, by exact ev_, by exact ev_, rfl, by omega, rfl⟩
  rintro kk tm s1 ⟨i, e1, e2, e5, e9, e11, rfl, hi, hkk⟩
  by_cases hin : i < (tblN nodes K a 64).length
  · obtain ⟨p, hp⟩ : ∃ p, (tblN nodes K a 64)[i]? = some p := ⟨_, List.getElem?_eq_getElem hin⟩
    obtain ⟨p1, p2, p3, p4⟩ := tblN_mem (List.mem_of_getElem? hp)
    obtain ⟨_, _, hlk⟩ := hop_ok.1 p3
    obtain ⟨_, x1, x2, x3⟩ := lead_ok hck (lkB_iff.1 hlk).2.2
    rw [← hk] at x2 x3
    obtain ⟨q, rfl, aq⟩ := hC _ _ hp
    have gp : (pcs (tblN nodes K a 64))[i * 2 + 0]? = some (.int .i64 p.1) := pcs_cell hp 0 (by decide)
    have hpl := pcs_length (tblN nodes K a 64)
    have c12 := leaderR (a := p.1) hV2
    rw [x1, x2] at c12
    have hlt : ¬ p.1 < k := by omega



    (repeat' (first | (apply Ab.K.ev; exact ev_) | (apply Ab.K.aops; first | (apply Xg.s; constructor) | (apply Ab.S.guardU; (case hd => rfl); (case hb => (exact ev_; done))) | apply Ab.S.guardG) | (apply Ab.K.aop; first | (apply Og.s; constructor)) | (apply Ab.K.gk; first | (apply Xg.s; constructor) | (apply Ab.gY; case hw => assumption) | (apply Ab.gNT; case hw => assumption) | (apply Ab.gNF; case hw => assumption) | ((first | apply Ab.gD | apply Ab.gDN); all_goals (intro _ _; (first | contradiction | (exfalso; omega) | skip)))) | (apply Ab.K.aopsD; first | (apply Ab.D.q0t; (case hw => rfl); (case hot => rfl)) | (apply Ab.D.w1t; (case hw => rfl); (case hot => rfl)) | (apply Ab.D.q0; (case hw => rfl); intro _ _) | (apply Ab.D.w1n; (case hw => rfl); intro _ _) | (apply Ab.D.w2n; (case hw => rfl); intro _ _) | (apply Xg.s; constructor) | (apply Ab.D.guardU; (case hd => rfl); (case hb => (exact ev_; done))) | apply Ab.D.guardG) | exact ⟨rfl, rfl⟩ | (apply Ab.K.awp; first | (apply AWp.draw (id := 11) [[], [], [], [1, 2], [1, 2, 3], [1, 2, 3, 4], [0, 1, 2, 3, 4, 5], [0, 1, 2, 3, 4, 5, 6], [0, 1, 2, 3, 4, 5, 6, 7], [0, 1, 2, 3, 4, 5, 6, 7], [0, 1, 2, 3, 4, 5, 6, 7, 8], [0, 1, 2, 3, 4, 5, 6, 7, 8, 9, 10]] [] (by kernel_rfl) (by kernel_rfl) (by simp [apartW, unordB, cC] <;> omega)) | (apply Xg.s; constructor)) | (apply Ab.K.at_; exact at_) | (apply Ab.K.acall; first | assumption | exact c12) | (apply Ab.Rg.mk; omega) | (apply Ab.Lt.mk; first | decide | (simp; done) | (simp; omega) | fail) | (apply Ab.Get.mk; first | rfl | first | rfl | (rw [Int.toNat_natCast]; exact gp)) | (apply Ab.Nm.mk; first | exact (show (([.slice A n c, .slice (some ⟨q, 0, none⟩) m d] : List Value).drop 0).take 2 = [.slice A n c, .slice (some ⟨q, 0, none⟩) m d] from rfl) | exact (show (([.slice A n c, .slice B m d] : List Value).drop 0).take 2 = [.slice A n c, .slice B m d] from rfl) | exact nrm_) | (apply Xg.s; constructor) | (apply Ab.asm; assumption) | rfl | infer_instance | decide))
    exact X.roundN ((tblN nodes K a 64).length - (i + 1)) (by omega) ⟨i + 1, by exact ev_, by exact ev_, by exact ev_, by exact ev_, by exact ev_, rfl, by omega, rfl⟩
  · obtain rfl : i = (tblN nodes K a 64).length := by omega
    (repeat' (first | (apply Ab.K.ev; exact ev_) | (apply Ab.K.aops; first | (apply Xg.s; constructor) | (apply Ab.S.guardU; (case hd => rfl); (case hb => (exact ev_; done))) | apply Ab.S.guardG) | (apply Ab.K.aop; first | (apply Og.s; constructor)) | (apply Ab.K.gk; first | (apply Xg.s; constructor) | (apply Ab.gY; case hw => assumption) | (apply Ab.gNT; case hw => assumption) | (apply Ab.gNF; case hw => assumption) | ((first | apply Ab.gD | apply Ab.gDN); all_goals (intro _ _; (first | contradiction | (exfalso; omega) | skip)))) | (apply Ab.K.awp; first | (apply Xg.s; constructor)) | (apply Ab.K.at_; exact at_) | (apply Ab.K.acall; first | assumption | exact aw _) | (apply Ab.Rg.mk; omega) | (apply Ab.Lt.mk; first | decide | (simp; done) | (simp; omega) | fail) | (apply Ab.Get.mk; first | rfl | first | rfl | (rw [Int.toNat_natCast]; exact gp)) | (apply Ab.Nm.mk; first | exact (show (([.slice A n c, .slice (some ⟨q, 0, none⟩) m d] : List Value).drop 0).take 2 = [.slice A n c, .slice (some ⟨q, 0, none⟩) m d] from rfl) | exact (show (([.slice A n c, .slice B m d] : List Value).drop 0).take 2 = [.slice A n c, .slice B m d] from rfl) | exact nrm_) | (apply Xg.s; constructor) | (apply Ab.asm; assumption) | rfl | infer_instance | decide))
    all_goals ((first | apply RetQ.ret | apply RetQ.normal); (case he => exact evr_); (case hg => rfl))
    all_goals first | rfl | exact Keeps.fr F2 (plR.nm rfl)
end Go.Proofs.Ytdbnpghckgmaoaa
