/- texts of this claim, one behind the other: VG, TN, UA, UC, TO. -/
import Derived.Test.YtdbnpghckgmaoaaM1
import Derived.Test.YtdbnpghckgmaoaaM10
import Derived.Test.YtdbnpghckgmaoaaM18
import Derived.Test.YtdbnpghckgmaoaaM19
import Derived.Test.YtdbnpghckgmaoaaM22

/- views: the edges that both ends have marked, by the program and by the document. -/
namespace Go.Proofs.Ytdbnpghckgmaoaa
set_option linter.unusedVariables false
set_option linter.unusedSimpArgs false
set_option linter.unusedSectionVars false
open Go.RowKit Ab TP VP
def bpre (l : List Kn) : List E := (l.filter fun k => k.md).map edg
theorem bpre_snoc {l : List Kn} {x : Kn} : bpre (l ++ [x]) = bpre l ++ if x.md = true then [edg x] else [] := by
  unfold bpre
  rw [List.filter_append, List.map_append]
  cases h : x.md <;> simp [h]
theorem bpre_len {l : List Kn} : (bpre l).length ≤ l.length := by unfold bpre; rw [List.length_map]; exact List.length_filter_le _ _
theorem EA.newL {s s' : AHeap} {v : Value} {k : Nat} {l : List E} (h : NewL s 3 v k (ecs l) s') (hk : k = l.length) : ∃ on, EA s' v on l := by
  subst hk
  rcases h with ⟨hk, _, rfl, rfl⟩ | ⟨u, _, rfl, _, rfl⟩
  · obtain rfl := List.length_eq_zero_iff.1 hk
    exact ⟨none, .nil⟩
  · exact ⟨some u, EA.own At.hit⟩
theorem ec_plR {e : E} : plR (.agg (ec e).toArray) = true := rfl
attribute [local irreducible] AOps AOpsD AOp AWp put nargs AHeap.set At Free ACall ACallE thenQ blockQ roundQ RetQ RetE Src Gr

theorem bound_err {s : AHeap} {A B : Option Addr} {n c m d : Nat} {on ol : Option Nat} {nodes : List Int} {L : List Kn} (hN : NA s (.slice A n c) on nodes) (hL : KA s (.slice B m d) ol L) (hn : n ≤ 100000) (hm : m ≤ 100000) (hno : mvB nodes L = false) :
    ACall Try.prog 31 [.agg #[.slice A n c, .slice B m d]] s (.tuple #[.slice none 0 0, .int .i64 1]) s := by
  refine ACall.make Try.func31 rfl (by kernel_rfl) (by decide) rfl (fun N hN0 => ?_)
  have hT : Top N s := hN0
  have F1 : Fr (s.set N (.cells true 1 [.slice A n c, .slice B m d])) s [] := Fr.new (hT.free (Nat.le_refl _)) (Fr.refl _ _)
  have c43 := inner_err (hN.fr F1) (hL.fr F1) hn hm hno


  (repeat' (first | (apply Ab.K.ev; exact ev_) | (apply Ab.K.aops; first | (apply Xg.s; constructor) | (apply Ab.S.guardU; (case hd => rfl); (case hb => (exact ev_; done))) | apply Ab.S.guardG) | (apply Ab.K.aop; first | (apply Ab.O.boxA (l := [.slice A n c, .slice B m d]) N; (case hx => exact ev_); (case hid => exact hT.free (Nat.le_refl _))) | (apply Og.s; constructor)) | (apply Ab.K.gk; first | (apply Xg.s; constructor) | (apply Ab.gY; case hw => assumption) | (apply Ab.gNT; case hw => assumption) | (apply Ab.gNF; case hw => assumption) | ((first | apply Ab.gD | apply Ab.gDN); all_goals (intro _ _; (first | contradiction | (exfalso; omega) | skip)))) | (apply Ab.K.awp; first | (apply Xg.s; constructor)) | (apply Ab.K.at_; exact at_) | (apply Ab.K.acall; first | assumption | exact c43) | (apply Ab.Rg.mk; omega) | (apply Ab.Lt.mk; first | decide | (simp; done) | (simp; omega) | fail) | (apply Ab.Get.mk; first | rfl | fail) | (apply Ab.Nm.mk; first | exact (show (([.slice A n c, .slice B m d] : List Value).drop 0).take 2 = [.slice A n c, .slice B m d] from rfl) | exact nrm_) | (apply Xg.s; constructor) | (apply Ab.asm; assumption) | rfl | infer_instance | decide))
  refine AWp.loop (fun kk tm s1 => Ev tm (.tmp 5) (.int .i64 1) ∧ Ev tm (.tmp 6) (.slice none 0 0) ∧ Ev tm (.tmp 15) (.int .i64 (0 : Nat)) ∧ Ev tm (.tmp 16) (.int .i64 0) ∧ Fr s1 s []) 0 ?_ ?_
  · exact ⟨by exact ev_, by exact ev_, by exact ev_, by exact ev_, F1⟩
  rintro kk tm s1 ⟨e5, e6, e15, e16, F⟩

  (repeat' (first | (apply Ab.K.ev; exact ev_) | (apply Ab.K.aops; first | (apply Xg.s; constructor) | (apply Ab.S.guardU; (case hd => rfl); (case hb => (exact ev_; done))) | apply Ab.S.guardG) | (apply Ab.K.aop; first | (apply Og.s; constructor)) | (apply Ab.K.gk; first | (apply Xg.s; constructor) | (apply Ab.gY; case hw => assumption) | (apply Ab.gNT; case hw => assumption) | (apply Ab.gNF; case hw => assumption) | ((first | apply Ab.gD | apply Ab.gDN); all_goals (intro _ _; (first | contradiction | (exfalso; omega) | skip)))) | (apply Ab.K.awp; first | (apply Xg.s; constructor)) | (apply Ab.K.at_; exact at_) | (apply Ab.K.acall; first | assumption | fail) | (apply Ab.Rg.mk; omega) | (apply Ab.Lt.mk; first | decide | (simp; done) | (simp; omega) | fail) | (apply Ab.Get.mk; first | rfl | fail) | (apply Ab.Nm.mk; first | exact (show (([.slice A n c, .slice B m d] : List Value).drop 0).take 2 = [.slice A n c, .slice B m d] from rfl) | exact nrm_) | (apply Xg.s; constructor) | (apply Ab.asm; assumption) | rfl | infer_instance | decide))
  all_goals ((first | apply RetQ.ret | apply RetQ.normal); (case he => exact evr_); (case hg => rfl))
  all_goals first | rfl | exact Keeps.fr F (plR.nm rfl)
set_option maxHeartbeats 8000000 in
theorem boundV {s : AHeap} {A B : Option Addr} {n c m d : Nat} {on ol : Option Nat} {nodes : List Int} {L : List Kn} (hN : NA s (.slice A n c) on nodes) (hL : KA s (.slice B m d) ol L) (hn : n ≤ 100000) (hm : m ≤ 100000) (hv : MayV nodes L) :
    ACallE Try.prog 31 [.agg #[.slice A n c, .slice B m d]] s (fun v s' => ∃ w, v = .tuple #[w, .int .i64 0] ∧ NewL s 3 w (bnd L).length (ecs (bnd L)) s') := by
  have hml : m = L.length := by obtain ⟨_, _, e⟩ := hL.isl; injection e
  have hil := inn_len hv.2
  refine ACallE.make Try.func31 rfl (by kernel_rfl) (by decide) rfl (fun N hN0 => ?_)
  have hT : Top N s := hN0
  have F1 : Fr (s.set N (.cells true 1 [.slice A n c, .slice B m d])) s [] := Fr.new (hT.free (Nat.le_refl _)) (Fr.refl _ _)
  have c43 := innerV (hN.fr F1) (hL.fr F1) hn hm hv

  (repeat' (first | (apply Ab.K.ev; exact ev_) | (apply Ab.K.aops; first | (apply Xg.s; constructor) | (apply Ab.S.guardU; (case hd => rfl); (case hb => (exact ev_; done))) | apply Ab.S.guardG) | (apply Ab.K.aop; first | (first | (apply Ab.O.boxA (l := [.slice A n c, .slice B m d]) N; (case hx => exact ev_); (case hid => exact hT.free (Nat.le_refl _))) | (apply Ab.O.callFE; (case ha => exact evs_); (case hc => exact c43))) | (apply Og.s; constructor)) | (apply Ab.K.gk; first | (apply Xg.s; constructor) | (apply Ab.gY; case hw => assumption) | (apply Ab.gNT; case hw => assumption) | (apply Ab.gNF; case hw => assumption) | ((first | apply Ab.gD | apply Ab.gDN); all_goals (intro _ _; (first | contradiction | (exfalso; omega) | skip)))) | (apply Ab.K.awp; first | (apply Xg.s; constructor)) | (apply Ab.K.at_; exact at_) | (apply Ab.K.acall; first | assumption | fail) | (apply Ab.Rg.mk; omega) | (apply Ab.Lt.mk; first | decide | (simp; done) | (simp; omega) | fail) | (apply Ab.Get.mk; first | rfl | fail) | (apply Ab.Nm.mk; first | exact (show (([.slice A n c, .slice B m d] : List Value).drop 0).take 2 = [.slice A n c, .slice B m d] from rfl) | exact nrm_) | (apply Xg.s; constructor) | (apply Ab.asm; assumption) | rfl | infer_instance | decide))
  rintro v2 s2 ⟨w, rfl, hw⟩
  clear c43
  obtain ⟨M0, hM0, T0⟩ := hw.top (hT.new (b := .cells true 1 [.slice A n c, .slice B m d]))
  obtain ⟨oi, hI⟩ := KA.newL hw rfl
  have F2 : Fr s2 s [] := fun i hi c hc => hw.fr i hi c (F1 i hi c hc)
  obtain ⟨C, ci, rfl⟩ := hI.isl
  (repeat' (first | (apply Ab.K.ev; exact ev_) | (apply Ab.K.aops; first | (apply Xg.s; constructor) | (apply Ab.S.guardU; (case hd => rfl); (case hb => (exact ev_; done))) | apply Ab.S.guardG) | (apply Ab.K.aop; first | (apply Og.s; constructor)) | (apply Ab.K.gk; first | (apply Xg.s; constructor) | (apply Ab.gY; case hw => assumption) | (apply Ab.gNT; case hw => assumption) | (apply Ab.gNF; case hw => assumption) | ((first | apply Ab.gD | apply Ab.gDN); all_goals (intro _ _; (first | contradiction | (exfalso; omega) | skip)))) | (apply Ab.K.awp; first | (apply Xg.s; constructor)) | (apply Ab.K.at_; exact at_) | (apply Ab.K.acall; first | assumption | fail) | (apply Ab.Rg.mk; omega) | (apply Ab.Lt.mk; first | decide | (simp; done) | (simp; omega) | fail) | (apply Ab.Get.mk; first | rfl | fail) | (apply Ab.Nm.mk; first | exact (show (([.slice A n c, .slice B m d] : List Value).drop 0).take 2 = [.slice A n c, .slice B m d] from rfl) | exact nrm_) | (apply Xg.s; constructor) | (apply Ab.asm; assumption) | rfl | infer_instance | decide))
  refine AWp.loop (fun kk tm s1 => ∃ (i k M : Nat) (v : Value) (ov : Option Nat) (r : List E), Ev tm (.tmp 5) (.int .i64 0) ∧ Ev tm (.tmp 6) v ∧ Ev tm (.tmp 14) (.slice C (inn L).length ci) ∧ Ev tm (.tmp 15) (.int .i64 (inn L).length) ∧ Ev tm (.tmp 16) (.int .i64 i) ∧ KA s1 (.slice C (inn L).length ci) oi (inn L) ∧ (∀ q, oi = some q → q < M0) ∧ Gr s1 3 M0 v ov k (ecs r) ∧ k = r.length ∧ r = bpre ((inn L).take i) ∧ Fr s1 s [] ∧ Top M s1 ∧ M0 ≤ M ∧ i ≤ (inn L).length ∧ kk = (inn L).length - i) (inn L).length ?_ ?_
  · exact ⟨0, 0, M0, _, _, [], by exact ev_, by exact ev_, by exact ev_, by exact ev_, by exact ev_, hI, hI.lt T0, Gr.nil, rfl, rfl, F2, T0, Nat.le_refl _, by omega, rfl⟩
  clear hI F2 hw T0
  rintro kk tm s1 ⟨i, k, M, v, ov, r, e5, e6, e14, e15, e16, hI, hIM, G, hk, hr, F, T, hMM, hi, hkk⟩
  have hlt := G.lt T
  have hge := G.from_
  by_cases hin : i < (inn L).length
  · obtain ⟨x, hx⟩ : ∃ x, (inn L)[i]? = some x := ⟨_, List.getElem?_eq_getElem hin⟩
    have htk : (inn L).take (i + 1) = (inn L).take i ++ [x] := by rw [List.take_add_one, hx]; rfl
    have hxne : x.node ≠ x.peer := by
      obtain ⟨k1, _, r1, _, hm1⟩ := inn_mem.1 (List.mem_of_getElem? hx)
      obtain ⟨⟨h1, _⟩, rfl⟩ := mt_some.1 hm1
      show k1.node ≠ k1.peer; omega
    have hrl : k ≤ 100000 := by rw [hk, hr]; exact Nat.le_trans bpre_len (by rw [List.length_take]; omega)
    obtain ⟨q, rw1, cs, rfl, hqo, _, hq, hcs, hE, _⟩ := hI.elt hx
    have hqM0 := hIM q hqo
    obtain ⟨s3, hs3⟩ : ∃ s3, s3 = (s1.set M (.cells true 1 (kc ⟨0, 0, 0, 0, false⟩))).set M (.cells true 1 (kc x)) := ⟨_, rfl⟩
    have F3 : Fr s3 s [] := by rw [hs3, AHeap.set_set]; exact Fr.new (hT.free (by omega)) F
    have T3 : Top (M + 1) s3 := by rw [hs3, AHeap.set_set]; exact T.new
    have aM : At s3 M (.cells true 1 (kc x)) := by rw [hs3]; exact At.hit
    have hI3 : KA s3 (.slice (some ⟨q, 0, none⟩) (inn L).length ci) oi (inn L) := hI.of_at fun o ho => by
      have := hIM o ho
      rw [hs3, AHeap.set_other _ _ (by omega), AHeap.set_other _ _ (by omega)]
    have G3 : Gr s3 3 M0 v ov k (ecs r) := by rw [hs3]; exact (G.set (fun q e => by have := hlt q e; omega)).set (fun q e => by have := hlt q e; omega)
    have c44 : ∀ s : AHeap, ACall Try.prog 44 [.agg (kc x).toArray] s (.agg (ec (edg x)).toArray) s := fun s => edgeV hxne



    cases hmd : x.md
    · have hr1 : r = bpre ((inn L).take (i + 1)) := by rw [htk, bpre_snoc, hmd, ← hr]; simp
      (repeat' (first | (apply Ab.K.ev; exact ev_) | (apply Ab.K.aops; first | (apply Xg.s; constructor) | (apply Ab.S.guardU; (case hd => rfl); (case hb => (exact ev_; done))) | apply Ab.S.guardG) | (apply Ab.K.aop; first | (first | (apply Ab.O.allocA (l := kc ⟨0, 0, 0, 0, false⟩) M; (case hid => exact T.free (Nat.le_refl _)); (case hp => rfl)) | (apply Ab.O.storeAll; (case hz => rfl); (case hx => exact ev_); (case hy => exact ev_); (case hs => exact at_); (case hl => rfl); (case hc => rfl)) | (apply Ab.O.build1A (M + 1); (case hx => exact ev_); (case hl => rfl); (case hz => exact ⟨rfl, rfl⟩); (case hes => decide); (case hid => exact free_))) | (apply Og.s; constructor)) | (apply Ab.K.gk; first | (apply Xg.s; constructor) | (apply Ab.gY; case hw => assumption) | (apply Ab.gNT; case hw => assumption) | (apply Ab.gNF; case hw => assumption) | ((first | apply Ab.gD | apply Ab.gDN); all_goals (intro _ _; (first | contradiction | (exfalso; omega) | skip)))) | (apply Ab.K.awp; first | (apply Xg.s; constructor)) | (apply Ab.K.at_; exact at_) | (apply Ab.K.acall; first | assumption | exact c44 _) | (apply Ab.Rg.mk; omega) | (apply Ab.Lt.mk; first | decide | (simp; done) | (simp; omega) | first | omega | (show (0 + 5 : Nat) < 5 + 1; decide)) | (apply Ab.Get.mk; first | rfl | fail) | (apply Ab.Nm.mk; first | first | exact Eq.trans (congrArg (fun z => List.take _ (List.drop (z * 5) cs)) (Int.toNat_natCast i)) hE | exact (show ((kc x).drop 0).take 5 = kc x from rfl) | exact nrm_) | (apply Xg.s; constructor) | (apply Ab.asm; assumption) | rfl | infer_instance | decide))
      rw [← hs3]
      exact X.roundN ((inn L).length - (i + 1)) (by omega) ⟨i + 1, k, M + 1, v, ov, r, by exact ev_, by exact ev_, by exact ev_, by exact ev_, by exact ev_, hI3, hIM, G3, hk, hr1, F3, T3, by omega, by omega, rfl⟩
    · have hr1 : r ++ [edg x] = bpre ((inn L).take (i + 1)) := by rw [htk, bpre_snoc, hmd, ← hr]; simp
      (repeat' (first | (apply Ab.K.ev; exact ev_) | (apply Ab.K.aops; first | (apply Xg.s; constructor) | (apply Ab.S.guardU; (case hd => rfl); (case hb => (exact ev_; done))) | apply Ab.S.guardG) | (apply Ab.K.aop; first | (first | (apply Ab.O.allocA (l := kc ⟨0, 0, 0, 0, false⟩) M; (case hid => exact T.free (Nat.le_refl _)); (case hp => rfl)) | (apply Ab.O.storeAll; (case hz => rfl); (case hx => exact ev_); (case hy => exact ev_); (case hs => exact at_); (case hl => rfl); (case hc => rfl)) | (apply Ab.O.build1A (M + 1); (case hx => exact ev_); (case hl => rfl); (case hz => exact ⟨rfl, rfl⟩); (case hes => decide); (case hid => exact free_))) | (apply Og.s; constructor)) | (apply Ab.K.gk; first | (apply Xg.s; constructor) | (apply Ab.gY; case hw => assumption) | (apply Ab.gNT; case hw => assumption) | (apply Ab.gNF; case hw => assumption) | ((first | apply Ab.gD | apply Ab.gDN); all_goals (intro _ _; (first | contradiction | (exfalso; omega) | skip)))) | (apply Ab.K.awp; first | (apply Xg.s; constructor)) | (apply Ab.K.at_; exact at_) | (apply Ab.K.acall; first | assumption | exact c44 _) | (apply Ab.Rg.mk; omega) | (apply Ab.Lt.mk; first | decide | (simp; done) | (simp; omega) | first | omega | (show (0 + 5 : Nat) < 5 + 1; decide)) | (apply Ab.Get.mk; first | rfl | fail) | (apply Ab.Nm.mk; first | first | exact Eq.trans (congrArg (fun z => List.take _ (List.drop (z * 5) cs)) (Int.toNat_natCast i)) hE | exact (show ((kc x).drop 0).take 5 = kc x from rfl) | exact nrm_) | (apply Xg.s; constructor) | (apply Ab.asm; assumption) | rfl | infer_instance | decide))
      rw [← hs3]
      have G4 := G3.set (id := M + 1) (b := .cells true 3 (ec (edg x))) (fun q e => by have := hlt q e; omega)
      clear G G3
      (apply Ab.O.appendL (M + 2); (case hx => exact ev_); (case hL => exact Ab.Gr.lat (by assumption)); (case hy => exact ev_); (case hs => exact srcAll At.hit rfl); (case hk => rfl); (case hm => decide); (case hl => first | rfl | simp); (case hz => decide); (case hb => omega); (case hfree => exact free_))
      intro s4 g
      have T5 := G4.topN g T3.new
      have F5 := G4.frN g (Fr.new (hT.free (by omega)) F3) (hT.mono (by omega))
      have hI5 : KA s4 (.slice (some ⟨q, 0, none⟩) (inn L).length ci) oi (inn L) := hI3.of_at fun o ho => by
        have := hIM o ho
        rw [g.off o (fun e => by have := hge o e; omega) (by omega), AHeap.set_other _ _ (by omega)]
      rw [show ecs r ++ ec (edg x) = ecs (r ++ [edg x]) from by rw [ecs_append]; simp [ecs]] at g
      have G5 : Gr s4 3 M0 _ _ (k + 1) _ := Gr.app g (by rw [ecs_length, List.length_append, hk]; rfl) (by omega)
      (repeat' (first | (apply Ab.K.ev; exact ev_) | (apply Ab.K.aops; first | (apply Xg.s; constructor) | (apply Ab.S.guardU; (case hd => rfl); (case hb => (exact ev_; done))) | apply Ab.S.guardG) | (apply Ab.K.aop; first | (apply Og.s; constructor)) | (apply Ab.K.gk; first | (apply Xg.s; constructor) | (apply Ab.gY; case hw => assumption) | (apply Ab.gNT; case hw => assumption) | (apply Ab.gNF; case hw => assumption) | ((first | apply Ab.gD | apply Ab.gDN); all_goals (intro _ _; (first | contradiction | (exfalso; omega) | skip)))) | (apply Ab.K.awp; first | (apply Xg.s; constructor)) | (apply Ab.K.at_; exact at_) | (apply Ab.K.acall; first | assumption | exact c44 _) | (apply Ab.Rg.mk; omega) | (apply Ab.Lt.mk; first | decide | (simp; done) | (simp; omega) | first | omega | (show (0 + 5 : Nat) < 5 + 1; decide)) | (apply Ab.Get.mk; first | rfl | fail) | (apply Ab.Nm.mk; first | first | exact Eq.trans (congrArg (fun z => List.take _ (List.drop (z * 5) cs)) (Int.toNat_natCast i)) hE | exact (show ((kc x).drop 0).take 5 = kc x from rfl) | exact nrm_) | (apply Xg.s; constructor) | (apply Ab.asm; assumption) | rfl | infer_instance | decide))
      exact X.roundN ((inn L).length - (i + 1)) (by omega) ⟨i + 1, k + 1, M + 3, _, _, r ++ [edg x], by exact ev_, by exact ev_, by exact ev_, by exact ev_, by exact ev_, hI5, hIM, G5, by rw [List.length_append, hk]; rfl, hr1, F5, T5, by omega, by omega, rfl⟩
  · have hie : i = (inn L).length := by omega
    have hr2 : r = bnd L := by rw [hr, hie, List.take_length]; rfl
    obtain ⟨s', hs', _, hkeep⟩ := G.newL F (hT.mono (by omega)) (ecs_pl _)
    have hq : ∃ w, Value.tuple #[v, .int .i64 0] = .tuple #[w, .int .i64 0] ∧ NewL s 3 w (bnd L).length (ecs (bnd L)) s' := ⟨v, rfl, by rw [← hr2, ← hk]; exact hs'⟩
    have hk0 := hkeep .i64 0
    rcases hs'.val with rfl | ⟨u, rfl⟩
    all_goals
      (repeat' (first | (apply Ab.K.ev; exact ev_) | (apply Ab.K.aops; first | (apply Xg.s; constructor) | (apply Ab.S.guardU; (case hd => rfl); (case hb => (exact ev_; done))) | apply Ab.S.guardG) | (apply Ab.K.aop; first | (apply Og.s; constructor)) | (apply Ab.K.gk; first | (apply Xg.s; constructor) | (apply Ab.gY; case hw => assumption) | (apply Ab.gNT; case hw => assumption) | (apply Ab.gNF; case hw => assumption) | ((first | apply Ab.gD | apply Ab.gDN); all_goals (intro _ _; (first | contradiction | (exfalso; omega) | skip)))) | (apply Ab.K.awp; first | (apply Xg.s; constructor)) | (apply Ab.K.at_; exact at_) | (apply Ab.K.acall; first | assumption | exact c44 _) | (apply Ab.Rg.mk; omega) | (apply Ab.Lt.mk; first | decide | (simp; done) | (simp; omega) | first | omega | (show (0 + 5 : Nat) < 5 + 1; decide)) | (apply Ab.Get.mk; first | rfl | fail) | (apply Ab.Nm.mk; first | first | exact Eq.trans (congrArg (fun z => List.take _ (List.drop (z * 5) cs)) (Int.toNat_natCast i)) hE | exact (show ((kc x).drop 0).take 5 = kc x from rfl) | exact nrm_) | (apply Xg.s; constructor) | (apply Ab.asm; assumption) | rfl | infer_instance | decide))
      all_goals ((first | apply RetE.ret | apply RetE.normal); (case he => exact evr_); (case hg => rfl))
      · exact hq
      · exact hk0

set_option maxHeartbeats 8000000 in
theorem bound09 {s : AHeap} {A B : Option Addr} {n c m d : Nat} {ol : Option Nat} {nodes : List Int} {L : List Kn} {o : Nat} (hL : KA s (.slice B m d) ol L) (hm : m ≤ 100000) (hLO : LOk nodes L) (ho : s o = none) :
    ACall Try.prog 15 [.agg #[.slice A n c, .slice B m d]] s (.slice (some ⟨o, 0, none⟩) (bnd L).length (bnd L).length) (s.set o (.cells true 3 (ecs (bnd L)))) := by
  have hml : m = L.length := by obtain ⟨_, _, e⟩ := hL.isl; injection e
  have hil := inn_len hLO
  refine ACall.make Try.func15 rfl (by kernel_rfl) (by decide) rfl (fun N hN0 => ?_)
  have hT : Top N s := hN0
  have F1 : Fr (s.set N (.cells true 1 [.slice A n c, .slice B m d])) s [] := Fr.new (hT.free (Nat.le_refl _)) (Fr.refl _ _)
  have c28 := inner09 (A := A) (n := n) (c := c) (o := N + 1) (hL.fr F1) hm hLO (hT.new.none (Nat.le_refl _))


  (repeat' (first | (apply Ab.K.ev; exact ev_) | (apply Ab.K.aops; first | (apply Xg.s; constructor) | (apply Ab.S.guardU; (case hd => rfl); (case hb => (exact ev_; done))) | apply Ab.S.guardG) | (apply Ab.K.aop; first | (first | (apply Ab.O.boxA (l := [.slice A n c, .slice B m d]) N; (case hx => exact ev_); (case hid => exact hT.free (Nat.le_refl _))) | (apply Ab.O.build0 (N + 2) (te := ⟨.struct [(0, 3), (1, 3), (2, 3)], 3, 24, .agg #[.int .i64 0, .int .i64 0, .int .i64 0]⟩); (case hz => exact ⟨rfl, rfl⟩); (case hid => exact frees_))) | (apply Og.s; constructor)) | (apply Ab.K.gk; first | (apply Xg.s; constructor) | (apply Ab.gY; case hw => assumption) | (apply Ab.gNT; case hw => assumption) | (apply Ab.gNF; case hw => assumption) | ((first | apply Ab.gD | apply Ab.gDN); all_goals (intro _ _; (first | contradiction | (exfalso; omega) | skip)))) | (apply Ab.K.awp; first | (apply Xg.s; constructor)) | (apply Ab.K.at_; exact at_) | (apply Ab.K.acall; first | assumption | exact c28) | (apply Ab.Rg.mk; omega) | (apply Ab.Lt.mk; first | decide | (simp; done) | (simp; omega) | first | omega | (show (0 + 5 : Nat) < 5 + 1; decide)) | (apply Ab.Get.mk; first | rfl | fail) | (apply Ab.Nm.mk; first | exact (show (([.slice A n c, .slice B m d] : List Value).drop 0).take 2 = [.slice A n c, .slice B m d] from rfl) | exact nrm_) | (apply Xg.s; constructor) | (apply Ab.asm; assumption) | rfl | infer_instance | decide))

  clear c28
  refine AWp.loop (fun kk tm s1 => ∃ (i k M : Nat) (v : Value) (ov : Option Nat) (r : List E), Ev tm (.tmp 3) (.slice (some ⟨N + 1, 0, none⟩) (inn L).length (inn L).length) ∧ Ev tm (.tmp 4) v ∧ Ev tm (.tmp 5) (.int .i64 i) ∧ At s1 (N + 1) (.cells true 5 (kcs (inn L))) ∧ Gr s1 3 (N + 2) v ov k (ecs r) ∧ ov.isSome = true ∧ k = r.length ∧ r = bpre ((inn L).take i) ∧ Fr s1 s [] ∧ Top M s1 ∧ N + 2 ≤ M ∧ i ≤ (inn L).length ∧ kk = (inn L).length - i) (inn L).length ?_ ?_
  · exact ⟨0, 0, N + 3, _, _, [], by exact ev_, by exact ev_, by exact ev_, by exact at_, Gr.new (q := N + 2) At.hit rfl (Nat.le_refl _), rfl, rfl, rfl, by exact fr_, by exact top_, by omega, by omega, rfl⟩
  clear F1
  rintro kk tm s1 ⟨i, k, M, v, ov, r, e3, e4, e5, aI, G, hov, hk, hr, F, T, hMM, hi, hkk⟩
  have hlt := G.lt T
  have hge := G.from_
  by_cases hin : i < (inn L).length
  · obtain ⟨x, hx⟩ : ∃ x, (inn L)[i]? = some x := ⟨_, List.getElem?_eq_getElem hin⟩
    have htk : (inn L).take (i + 1) = (inn L).take i ++ [x] := by rw [List.take_add_one, hx]; rfl
    have hrl : k ≤ 100000 := by rw [hk, hr]; exact Nat.le_trans bpre_len (by rw [List.length_take]; omega)
    have hE := kcs_get hx
    have hcl := kcs_length (inn L)
    have g4 : (kcs (inn L))[i * 5 + 4]? = some (.bool x.md) := kcs_cell hx 4 (by omega)
    have c29 : ∀ s : AHeap, ACall Try.prog 29 [.agg (kc x).toArray] s (.agg (ec (edg x)).toArray) s := fun s => edge09




    cases hmd : x.md
    · have hr1 : r = bpre ((inn L).take (i + 1)) := by rw [htk, bpre_snoc, hmd, ← hr]; simp
      (repeat' (first | (apply Ab.K.ev; exact ev_) | (apply Ab.K.aops; first | (apply Xg.s; constructor) | (apply Ab.S.guardU; (case hd => rfl); (case hb => (exact ev_; done))) | apply Ab.S.guardG) | (apply Ab.K.aop; first | (apply Ab.O.build1A M; (case hx => exact ev_); (case hl => rfl); (case hz => exact ⟨rfl, rfl⟩); (case hes => decide); (case hid => exact T.free (Nat.le_refl _))) | (apply Og.s; constructor)) | (apply Ab.K.gk; first | (apply Xg.s; constructor) | (apply Ab.gY; case hw => assumption) | (apply Ab.gNT; case hw => assumption) | (apply Ab.gNF; case hw => assumption) | ((first | apply Ab.gD | apply Ab.gDN); all_goals (intro _ _; (first | contradiction | (exfalso; omega) | skip)))) | (apply Ab.K.awp; first | (apply Xg.s; constructor)) | (apply Ab.K.at_; exact at_) | (apply Ab.K.acall; first | assumption | exact c29 _) | (apply Ab.Rg.mk; omega) | (apply Ab.Lt.mk; first | decide | (simp; done) | (simp; omega) | (rw [kcs_length]; omega)) | (apply Ab.Get.mk; first | rfl | (rw [Int.toNat_natCast]; exact g4)) | (apply Ab.Nm.mk; first | exact Eq.trans (congrArg (fun z => List.take _ (List.drop (z * 5) (kcs (inn L)))) (Int.toNat_natCast i)) hE | exact nrm_) | (apply Xg.s; constructor) | (apply Ab.asm; assumption) | rfl | infer_instance | decide))
      exact X.roundN ((inn L).length - (i + 1)) (by omega) ⟨i + 1, k, M, v, ov, r, by exact ev_, by exact ev_, by exact ev_, aI, G, hov, hk, hr1, F, T, by omega, by omega, rfl⟩
    · have hr1 : r ++ [edg x] = bpre ((inn L).take (i + 1)) := by rw [htk, bpre_snoc, hmd, ← hr]; simp
      (repeat' (first | (apply Ab.K.ev; exact ev_) | (apply Ab.K.aops; first | (apply Xg.s; constructor) | (apply Ab.S.guardU; (case hd => rfl); (case hb => (exact ev_; done))) | apply Ab.S.guardG) | (apply Ab.K.aop; first | (apply Ab.O.build1A M; (case hx => exact ev_); (case hl => rfl); (case hz => exact ⟨rfl, rfl⟩); (case hes => decide); (case hid => exact T.free (Nat.le_refl _))) | (apply Og.s; constructor)) | (apply Ab.K.gk; first | (apply Xg.s; constructor) | (apply Ab.gY; case hw => assumption) | (apply Ab.gNT; case hw => assumption) | (apply Ab.gNF; case hw => assumption) | ((first | apply Ab.gD | apply Ab.gDN); all_goals (intro _ _; (first | contradiction | (exfalso; omega) | skip)))) | (apply Ab.K.awp; first | (apply Xg.s; constructor)) | (apply Ab.K.at_; exact at_) | (apply Ab.K.acall; first | assumption | exact c29 _) | (apply Ab.Rg.mk; omega) | (apply Ab.Lt.mk; first | decide | (simp; done) | (simp; omega) | (rw [kcs_length]; omega)) | (apply Ab.Get.mk; first | rfl | (rw [Int.toNat_natCast]; exact g4)) | (apply Ab.Nm.mk; first | exact Eq.trans (congrArg (fun z => List.take _ (List.drop (z * 5) (kcs (inn L)))) (Int.toNat_natCast i)) hE | exact nrm_) | (apply Xg.s; constructor) | (apply Ab.asm; assumption) | rfl | infer_instance | decide))
      have G4 := G.set (id := M) (b := .cells true 3 (ec (edg x))) (fun q e => by have := hlt q e; omega)
      clear G
      (apply Ab.O.appendL (M + 1); (case hx => exact ev_); (case hL => exact Ab.Gr.lat (by assumption)); (case hy => exact ev_); (case hs => exact srcAll At.hit rfl); (case hk => rfl); (case hm => decide); (case hl => first | rfl | simp); (case hz => decide); (case hb => omega); (case hfree => exact free_))
      intro s4 g
      have T5 := G4.topN g T.new
      have F5 := G4.frN g (Fr.new (hT.free (by omega)) F) (hT.mono (by omega))
      have b5 := Gr.off g (At.miss (by omega) aI) (fun q e => by have := hge q e; omega) (by omega)
      rw [show ecs r ++ ec (edg x) = ecs (r ++ [edg x]) from by rw [ecs_append]; simp [ecs]] at g
      have G5 : Gr s4 3 (N + 2) _ _ (k + 1) _ := Gr.app g (by rw [ecs_length, List.length_append, hk]; rfl) (by omega)
      (repeat' (first | (apply Ab.K.ev; exact ev_) | (apply Ab.K.aops; first | (apply Xg.s; constructor) | (apply Ab.S.guardU; (case hd => rfl); (case hb => (exact ev_; done))) | apply Ab.S.guardG) | (apply Ab.K.aop; first | (apply Og.s; constructor)) | (apply Ab.K.gk; first | (apply Xg.s; constructor) | (apply Ab.gY; case hw => assumption) | (apply Ab.gNT; case hw => assumption) | (apply Ab.gNF; case hw => assumption) | ((first | apply Ab.gD | apply Ab.gDN); all_goals (intro _ _; (first | contradiction | (exfalso; omega) | skip)))) | (apply Ab.K.awp; first | (apply Xg.s; constructor)) | (apply Ab.K.at_; exact at_) | (apply Ab.K.acall; first | assumption | exact c29 _) | (apply Ab.Rg.mk; omega) | (apply Ab.Lt.mk; first | decide | (simp; done) | (simp; omega) | (rw [kcs_length]; omega)) | (apply Ab.Get.mk; first | rfl | (rw [Int.toNat_natCast]; exact g4)) | (apply Ab.Nm.mk; first | exact Eq.trans (congrArg (fun z => List.take _ (List.drop (z * 5) (kcs (inn L)))) (Int.toNat_natCast i)) hE | exact nrm_) | (apply Xg.s; constructor) | (apply Ab.asm; assumption) | rfl | infer_instance | decide))
      exact X.roundN ((inn L).length - (i + 1)) (by omega) ⟨i + 1, k + 1, M + 2, _, _, r ++ [edg x], by exact ev_, by exact ev_, by exact ev_, b5, G5, rfl, by rw [List.length_append, hk]; rfl, hr1, F5, T5, by omega, by omega, rfl⟩
  · have hie : i = (inn L).length := by omega
    have hr2 : r = bnd L := by rw [hr, hie, List.take_length]; rfl
    obtain ⟨q, rfl, aq, hq⟩ := Gr_some G hov
    rw [← hr2, ← hk]
    (repeat' (first | (apply Ab.K.ev; exact ev_) | (apply Ab.K.aops; first | (apply Xg.s; constructor) | (apply Ab.S.guardU; (case hd => rfl); (case hb => (exact ev_; done))) | apply Ab.S.guardG) | (apply Ab.K.aop; first | (apply Og.s; constructor)) | (apply Ab.K.gk; first | (apply Xg.s; constructor) | (apply Ab.gY; case hw => assumption) | (apply Ab.gNT; case hw => assumption) | (apply Ab.gNF; case hw => assumption) | ((first | apply Ab.gD | apply Ab.gDN); all_goals (intro _ _; (first | contradiction | (exfalso; omega) | skip)))) | (apply Ab.K.awp; first | (apply Xg.s; constructor)) | (apply Ab.K.at_; exact at_) | (apply Ab.K.acall; first | assumption | exact c29 _) | (apply Ab.Rg.mk; omega) | (apply Ab.Lt.mk; first | decide | (simp; done) | (simp; omega) | (rw [kcs_length]; omega)) | (apply Ab.Get.mk; first | rfl | (rw [Int.toNat_natCast]; exact g4)) | (apply Ab.Nm.mk; first | exact Eq.trans (congrArg (fun z => List.take _ (List.drop (z * 5) (kcs (inn L)))) (Int.toNat_natCast i)) hE | exact nrm_) | (apply Xg.s; constructor) | (apply Ab.asm; assumption) | rfl | infer_instance | decide))
    apply RetQ.retR (renL (dn [(o, q, .cells true 3 (ecs r))]))
    (case he => exact evr_)
    (case hg => rfl)
    · simp [resV, mpR, mpB, mp1, mpA, renL_hit]
    · exact KeepsR.new1 ho (hT.none (by omega)) F aq (ecs_pl _) rfl
    · simp
end Go.Proofs.Ytdbnpghckgmaoaa

/- trees: the program's forests. -/
namespace Go.Proofs.Ytdbnpghckgmaoaa
set_option linter.unusedVariables false
set_option linter.unusedSimpArgs false
set_option linter.unusedSectionVars false
open Go.RowKit Ab TP
theorem JH.ext {J : JN} {s2 s1 s0 : AHeap} {w : List Int} (h : JH J s2 w) (hO : JOff J s2 s1) (hx : Ext s1 s0) : Ext s2 s0 := by
  have a2 := h.at
  have hd : ∀ i, (s1 i).isSome = true → (s2 i).isSome = true := fun i hi => by
    by_cases e1 : i = J.j
    · rw [e1]; exact a2.1
    · by_cases e2 : i = J.u
      · rw [e2]; exact a2.2.1
      · by_cases e3 : i = J.z
        · rw [e3]; exact a2.2.2.1
        · by_cases e4 : i = J.l
          · rw [e4]; exact a2.2.2.2
          · rw [hO i e1 e2 e3 e4]; exact hi
  refine ⟨fun i hi => hd i (hx.dom i hi), fun i b hb => ?_⟩
  obtain ⟨m, U, S, L, k, q, _⟩ := h
  by_cases e1 : i = J.j
  · subst e1
    rw [q.hj.eq] at hb
    obtain rfl := Option.some.inj hb
    refine .inr fun x hx => ?_
    simp only [jCells, List.mem_cons, List.not_mem_nil, or_false] at hx
    rcases hx with rfl | rfl | rfl | rfl
    · exact a2.2.1
    · exact a2.2.2.1
    · exact a2.2.2.2
    · trivial
  · by_cases e2 : i = J.u
    · subst e2; rw [q.hu.eq] at hb; obtain rfl := Option.some.inj hb; exact .inr (nm_scal (ints_pl _))
    · by_cases e3 : i = J.z
      · subst e3; rw [q.hz.eq] at hb; obtain rfl := Option.some.inj hb; exact .inr (nm_scal (ints_pl _))
      · by_cases e4 : i = J.l
        · subst e4; rw [q.hl.eq] at hb; obtain rfl := Option.some.inj hb; exact .inr (nm_scal (ints_pl _))
        · rw [hO i e1 e2 e3 e4] at hb
          exact (hx.cl i b hb).imp id fun e => ABlk.nm_imp (fun k hk => hd k hk) e
attribute [local irreducible] AOps AOpsD AOp AWp put nargs AHeap.set At Free ACall ACallE thenQ blockQ roundQ RetQ RetE Src bsn
theorem sets43 {s s2 : AHeap} {J : JN} (hc : ACall Try.prog 57 [.int .i64 (64 : Nat)] s (.tuple #[jp J, .int .i64 0]) s2) (hx : Ext s2 s) (hj : (s2 J.j).isSome = true) : ACall Try.prog 45 [] s (jp J) s2 := by
  refine ACall.make Try.func45 rfl (by kernel_rfl) (by decide) rfl (fun N hN => ?_)
  (repeat' (first | (apply Ab.K.ev; exact ev_) | (apply Ab.K.aops; first | (apply Xg.s; constructor) | (apply Ab.S.guardU; (case hd => rfl); (case hb => (exact ev_; done))) | apply Ab.S.guardG) | (apply Ab.K.aop; first | (apply Og.s; constructor)) | (apply Ab.K.gk; first | (apply Xg.s; constructor) | (apply Ab.gY; case hw => assumption) | (apply Ab.gNT; case hw => assumption) | (apply Ab.gNF; case hw => assumption) | ((first | apply Ab.gD | apply Ab.gDN); all_goals (intro _ _; (first | contradiction | (exfalso; omega) | skip)))) | (apply Ab.K.awp; first | (apply Xg.s; constructor)) | (apply Ab.K.at_; exact at_) | (apply Ab.K.acall; first | assumption | exact hc) | (apply Ab.Rg.mk; omega) | (apply Ab.Lt.mk; first | decide | (simp; done) | (simp; omega) | fail) | (apply Ab.Get.mk; first | rfl | fail) | (apply Ab.Nm.mk; first | exact nrm_) | (apply Xg.s; constructor) | (apply Ab.asm; assumption) | rfl | infer_instance | decide))
  all_goals ((first | apply RetQ.ret | apply RetQ.normal); (case he => exact evr_); (case hg => rfl))
  all_goals first | rfl | exact Keeps.ext hx hj
/-- The memory of a forest's check under way. -/
def FM (J : JN) (P : Nat) (s0 s s1 : AHeap) : Prop := At s1 P (.cells true 1 [jp J]) ∧ Fr s1 s0 [] ∧ Ext s1 s ∧ ∃ M, Top M s1 ∧ J.j < M ∧ J.u < M ∧ J.z < M ∧ J.l < M ∧ P < M
theorem forest46 {J : JN} {P : Nat} {s0 s s1 : AHeap} {w : List Int} {e : E} (hJ : JH J s1 w) (hw : w.length ≤ 5000) (hM : FM J P s0 s s1) (hP : P ≠ J.j ∧ P ≠ J.u ∧ P ≠ J.z ∧ P ≠ J.l) (hf : J.free s0) :
    ACallE Try.prog 48 (.agg (ec e).toArray :: #[Value.pointer (some ⟨P, 0, none⟩)].toList) s1 (fun v s' => v = .bool (!(JP.runite w e.a e.b).2) ∧ JH J s' (JP.runite w e.a e.b).1 ∧ FM J P s0 s s') := by
  obtain ⟨aP, F, X, M, T, b1, b2, b3, b4, b5⟩ := hM
  refine ACallE.make Try.func48 rfl (by kernel_rfl) (by decide) rfl (fun N hN => ?_)
  clear hN
  have hs : ∀ i, i ≠ M → (s1.set M (.cells true 1 (ec e))) i = s1 i := fun i hi => AHeap.set_other _ _ hi
  have hJ1 : JH J (s1.set M (.cells true 1 (ec e))) w := hJ.off (hs _ (by omega)) (hs _ (by omega)) (hs _ (by omega)) (hs _ (by omega))
  obtain ⟨s2, c47, hJ2, hO⟩ := unite_step hJ1 hw e.a e.b
  have X1 : Ext (s1.set M (.cells true 1 (ec e))) s := X.set (nm_scal (by simp [ec, pl1, plA]))
  have X2 : Ext s2 s := hJ2.ext hO X1
  have X3 : Ext s2 s1 := hJ2.ext hO ((Ext.refl s1).set (nm_scal (by simp [ec, pl1, plA])))
  have F2 : Fr s2 s0 [] := hO.fr hf (Fr.new (free_of (none_of T F M (Nat.le_refl _))) F)
  have T2 : Top (M + 1) s2 := hO.top T.new ⟨by omega, by omega, by omega, by omega⟩
  have aP2 : At s2 P (.cells true 1 [jp J]) := At.var (by rw [hO P hP.1 hP.2.1 hP.2.2.1 hP.2.2.2, hs P (by omega)]; exact aP.eq)
  have hfin : FM J P s0 s s2 := ⟨aP2, F2, X2, M + 1, T2, by omega, by omega, by omega, by omega, by omega⟩

  (repeat' (first | (apply Ab.K.ev; exact ev_) | (apply Ab.K.aops; first | (apply Xg.s; constructor) | (apply Ab.S.guardU; (case hd => rfl); (case hb => (exact ev_; done))) | apply Ab.S.guardG) | (apply Ab.K.aop; first | (apply Ab.O.boxA (l := ec e) M; (case hx => exact ev_); (case hid => exact T.free (Nat.le_refl _))) | (apply Og.s; constructor)) | (apply Ab.K.gk; first | (apply Xg.s; constructor) | (apply Ab.gY; case hw => assumption) | (apply Ab.gNT; case hw => assumption) | (apply Ab.gNF; case hw => assumption) | ((first | apply Ab.gD | apply Ab.gDN); all_goals (intro _ _; (first | contradiction | (exfalso; omega) | skip)))) | (apply Ab.K.awp; first | (apply Xg.s; constructor)) | (apply Ab.K.at_; exact at_) | (apply Ab.K.acall; first | assumption | exact c47) | (apply Ab.Rg.mk; omega) | (apply Ab.Lt.mk; first | decide | (simp; done) | (simp; omega) | fail) | (apply Ab.Get.mk; first | rfl | fail) | (apply Ab.Nm.mk; first | exact nrm_) | (apply Xg.s; constructor) | (apply Ab.asm; assumption) | rfl | infer_instance | decide))

  all_goals ((first | apply RetE.ret | apply RetE.normal); (case he => exact evr_); (case hg => rfl))
  all_goals first | exact ⟨rfl, hJ2, hfin⟩ | exact Keeps.ext X3 (plR.nm rfl)
noncomputable def cB (l : List E) (i : Nat) : Bool := open Classical in decide (∃ e, l[i]? = some e ∧ Conn (l.take i) e.a e.b)
theorem cB_iff {l : List E} {i : Nat} : cB l i = true ↔ ∃ e, l[i]? = some e ∧ Conn (l.take i) e.a e.b := by simp [cB]
theorem forest_of {l : List E} (h : ∀ j, j < l.length → cB l j = false) : Forest l := fun i e hi hc => by
  have := h i (List.getElem?_eq_some_iff.1 hi).1
  rw [cB_iff.2 ⟨e, hi, hc⟩] at this; cases this
theorem forest_not {l : List E} {i : Nat} (h : cB l i = true) : ¬ Forest l := fun hf => by
  obtain ⟨e, he, hc⟩ := cB_iff.1 h
  exact hf i e he hc
theorem cls_start : Cls (start 65) [] where
  ok := (jinv_start 64).wok
  len := start_length 65
  eq x y h1 h2 h3 h4 := by
    rw [g_start ⟨by omega, by rw [start_length]; omega⟩, g_start ⟨by omega, by rw [start_length]; omega⟩]
    exact ⟨fun h => by rw [h]; exact .refl _, fun h => h.nil⟩
theorem contains45f {J : JN} {P : Nat} {s0 s : AHeap} {A : Option Addr} {n c : Nat} {on : Option Nat} {l : List E} (h : EA s0 (.slice A n c) on l) (hg : TP.Good l) (hn : n ≤ 512) (hJ : JH J s (start 65)) (hM : FM J P s0 s s) (hP : P ≠ J.j ∧ P ≠ J.u ∧ P ≠ J.z ∧ P ≠ J.l) (hf : J.free s0) :
    ACallE Try.prog 47 [.slice A n c, .func (.func 48) #[] #[.pointer (some ⟨P, 0, none⟩)]] s (fun v s' => v = .bool (!foB l) ∧ FM J P s0 s s') := by
  have hnl : n = l.length := by obtain ⟨_, _, e⟩ := h.isl; injection e
  refine (contains45 (l := l) (b := cB l) (fun i s1 => FM J P s0 s s1 ∧ ∃ w, JH J s1 w ∧ w.length = 65 ∧ ((∀ j, j < i → cB l j = false) → Cls w (l.take i))) (fun i s1 hI => ⟨on, h.fr hI.1.2.1⟩) (fun i s1 hI => hI.1.2.2.1) (fun i e s1 hi hb hI => ?_) ⟨hM, _, hJ, start_length 65, fun _ => cls_start⟩ hn).mono fun v s' hh => ?_
  · obtain ⟨hM1, w, hJ1, hw, hcl⟩ := hI
    have hC := hcl hb
    have hem := hg.1 e (List.mem_of_getElem? hi)
    have htk : l.take (i + 1) = l.take i ++ [e] := by rw [List.take_add_one, hi]; rfl
    refine (forest46 (e := e) hJ1 (by omega) hM1 hP hf).mono fun v s' hh => ?_
    obtain ⟨rfl, hJ2, hM2⟩ := hh
    rcases hC.step hem.1 hem.2.1 with ⟨h1, h2, h3⟩ | ⟨h1, h3⟩
    · have hcb : cB l i = false := by
        cases hh : cB l i with
        | false => rfl
        | true => obtain ⟨f, hf1, hf2⟩ := cB_iff.1 hh; rw [hi] at hf1; obtain rfl := Option.some.inj hf1; exact absurd hf2 h3
      exact ⟨by rw [h1, hcb]; rfl, hM2, _, hJ2, h2.len, fun _ => by rw [htk]; exact h2⟩
    · have hcb : cB l i = true := cB_iff.2 ⟨e, hi, h3⟩
      have hsame : (JP.runite w e.a e.b).1 = w := by
        unfold JP.runite at h1 ⊢
        split
        · rename_i hc; rw [if_pos hc] at h1; cases h1
        · rfl
      exact ⟨by rw [h1, hcb]; rfl, hM2, _, hJ2, by rw [hsame]; exact hw, fun h => by rw [h i (by omega)] at hcb; cases hcb⟩
  · rcases hh with ⟨i, h1, h2, h3, rfl, hI⟩ | ⟨h1, rfl, hI⟩
    · refine ⟨?_, hI.1⟩
      have : foB l = false := by
        cases hh : foB l with
        | false => rfl
        | true => exact absurd (foB_iff.1 hh) (forest_not h2)
      rw [this]; rfl
    · refine ⟨?_, hI.1⟩
      have : foB l = true := foB_iff.2 (forest_of fun j hj => h1 j (by omega))
      rw [this]; rfl
noncomputable def gfB (l : List E) : Bool := decide (TP.Good l) && foB l
theorem forest28 {s : AHeap} {A : Option Addr} {n c : Nat} {on : Option Nat} {l : List E} (h : EA s (.slice A n c) on l) (hn : n ≤ 512) : ACall Try.prog 32 [.slice A n c] s (.bool (gfB l)) s := by
  refine ACall.make Try.func32 rfl (by kernel_rfl) (by decide) rfl (fun N hN => ?_)
  have hT : Top N s := hN
  obtain ⟨J, hJe⟩ : ∃ J : JN, J = ⟨N, N + 1, N + 2, N + 3, 65, 65, 65⟩ := ⟨_, rfl⟩
  have hf : J.free s := by subst hJe; exact ⟨hT.none (Nat.le_refl _), hT.none (by show N ≤ N + 1; omega), hT.none (by show N ≤ N + 2; omega), hT.none (by show N ≤ N + 3; omega)⟩
  obtain ⟨s2, c50, hJ, hO⟩ := new_step (s := s) (n := 64) (J := J) (by omega) hf (by subst hJe; simp) (by subst hJe; exact ⟨rfl, rfl, rfl⟩)
  have X2 : Ext s2 s := hJ.ext hO (Ext.refl s)
  have c43 := sets43 c50 X2 hJ.at.1
  have jb : J.j = N ∧ J.u = N + 1 ∧ J.z = N + 2 ∧ J.l = N + 3 := by subst hJe; exact ⟨rfl, rfl, rfl, rfl⟩
  obtain ⟨j1, j2, j3, j4⟩ := jb
  have F2 : Fr s2 s [] := hO.fr hf (Fr.refl _ _)
  have T2 : Top (N + 4) s2 := hO.top (hT.mono (by omega)) ⟨by omega, by omega, by omega, by omega⟩
  obtain ⟨s3, hs3⟩ : ∃ s3, s3 = (s2.set (N + 4) (.cells true 1 [.pointer none])).set (N + 4) (.cells true 1 [jp J]) := ⟨_, rfl⟩
  have F3 : Fr s3 s [] := by rw [hs3]; exact Fr.new (hT.free (by omega)) (Fr.new (hT.free (by omega)) F2)
  have T3 : Top (N + 5) s3 := by rw [hs3]; exact Top.set T2.new (by omega)
  have hoff : ∀ i, i < N + 4 → s3 i = s2 i := fun i hi => by rw [hs3, AHeap.set_other _ _ (by omega), AHeap.set_other _ _ (by omega)]
  have hJ3 : JH J s3 (start 65) := hJ.off (hoff _ (by omega)) (hoff _ (by omega)) (hoff _ (by omega)) (hoff _ (by omega))
  have aP : At s3 (N + 4) (.cells true 1 [jp J]) := by rw [hs3]; exact At.hit
  have hM : FM J (N + 4) s s3 s3 := ⟨aP, F3, Ext.refl _, N + 5, T3, by omega, by omega, by omega, by omega, by omega⟩
  have c44 := checkAll44 (h.fr F3) hn

  rw [hs3] at c44
  by_cases hg : TP.Good l
  · have c45 := contains45f h hg hn hJ3 hM ⟨by omega, by omega, by omega, by omega⟩ hf
    rw [hs3] at c45
    rw [ck_y hg] at c44
    (repeat' (first | (apply Ab.K.ev; exact ev_) | (apply Ab.K.aops; first | (apply Xg.s; constructor) | (apply Ab.S.guardU; (case hd => rfl); (case hb => (exact ev_; done))) | apply Ab.S.guardG) | (apply Ab.K.aop; first | (first | (apply Ab.O.alloc1 (N + 4); (case hid => exact T2.free (Nat.le_refl _)); (case hp => rfl)) | (apply Ab.O.makeFunc; (case h1 => exact evs_); (case h2 => exact evs_); (case a1 => rfl); (case a2 => rfl)) | (apply Ab.O.callFE; (case ha => exact evs_); (case hc => exact c45))) | (apply Og.s; constructor)) | (apply Ab.K.gk; first | (apply Xg.s; constructor) | (apply Ab.gY; case hw => assumption) | (apply Ab.gNT; case hw => assumption) | (apply Ab.gNF; case hw => assumption) | ((first | apply Ab.gD | apply Ab.gDN); all_goals (intro _ _; (first | contradiction | (exfalso; omega) | skip)))) | (apply Ab.K.awp; first | (apply Xg.s; constructor)) | (apply Ab.K.at_; exact at_) | (apply Ab.K.acall; first | assumption | first | exact c43 | exact c44) | (apply Ab.Rg.mk; omega) | (apply Ab.Lt.mk; first | decide | (simp; done) | (simp; omega) | fail) | (apply Ab.Get.mk; first | rfl | fail) | (apply Ab.Nm.mk; first | exact nrm_) | (apply Xg.s; constructor) | (apply Ab.asm; assumption) | rfl | infer_instance | decide))
    rintro v s4 ⟨rfl, hM4⟩
    have F4 := hM4.2.1
    have hv : gfB l = foB l := by simp [gfB, hg]
    rw [hv]
    clear c45 c44 c43
    cases foB l
    · (repeat' (first | (apply Ab.K.ev; exact ev_) | (apply Ab.K.aops; first | (apply Xg.s; constructor) | (apply Ab.S.guardU; (case hd => rfl); (case hb => (exact ev_; done))) | apply Ab.S.guardG) | (apply Ab.K.aop; first | (first | (apply Ab.O.alloc1 (N + 4); (case hid => exact T2.free (Nat.le_refl _)); (case hp => rfl)) | (apply Ab.O.makeFunc; (case h1 => exact evs_); (case h2 => exact evs_); (case a1 => rfl); (case a2 => rfl)) | (apply Ab.O.callFE; (case ha => exact evs_); (case hc => exact c45))) | (apply Og.s; constructor)) | (apply Ab.K.gk; first | (apply Xg.s; constructor) | (apply Ab.gY; case hw => assumption) | (apply Ab.gNT; case hw => assumption) | (apply Ab.gNF; case hw => assumption) | ((first | apply Ab.gD | apply Ab.gDN); all_goals (intro _ _; (first | contradiction | (exfalso; omega) | skip)))) | (apply Ab.K.awp; first | (apply Xg.s; constructor)) | (apply Ab.K.at_; exact at_) | (apply Ab.K.acall; first | assumption | first | exact c43 | exact c44) | (apply Ab.Rg.mk; omega) | (apply Ab.Lt.mk; first | decide | (simp; done) | (simp; omega) | fail) | (apply Ab.Get.mk; first | rfl | fail) | (apply Ab.Nm.mk; first | exact nrm_) | (apply Xg.s; constructor) | (apply Ab.asm; assumption) | rfl | infer_instance | decide))
      all_goals ((first | apply RetQ.ret | apply RetQ.normal); (case he => exact evr_); (case hg => rfl))
      all_goals first | rfl | exact Keeps.fr F4 (plR.nm rfl)
    · (repeat' (first | (apply Ab.K.ev; exact ev_) | (apply Ab.K.aops; first | (apply Xg.s; constructor) | (apply Ab.S.guardU; (case hd => rfl); (case hb => (exact ev_; done))) | apply Ab.S.guardG) | (apply Ab.K.aop; first | (first | (apply Ab.O.alloc1 (N + 4); (case hid => exact T2.free (Nat.le_refl _)); (case hp => rfl)) | (apply Ab.O.makeFunc; (case h1 => exact evs_); (case h2 => exact evs_); (case a1 => rfl); (case a2 => rfl)) | (apply Ab.O.callFE; (case ha => exact evs_); (case hc => exact c45))) | (apply Og.s; constructor)) | (apply Ab.K.gk; first | (apply Xg.s; constructor) | (apply Ab.gY; case hw => assumption) | (apply Ab.gNT; case hw => assumption) | (apply Ab.gNF; case hw => assumption) | ((first | apply Ab.gD | apply Ab.gDN); all_goals (intro _ _; (first | contradiction | (exfalso; omega) | skip)))) | (apply Ab.K.awp; first | (apply Xg.s; constructor)) | (apply Ab.K.at_; exact at_) | (apply Ab.K.acall; first | assumption | first | exact c43 | exact c44) | (apply Ab.Rg.mk; omega) | (apply Ab.Lt.mk; first | decide | (simp; done) | (simp; omega) | fail) | (apply Ab.Get.mk; first | rfl | fail) | (apply Ab.Nm.mk; first | exact nrm_) | (apply Xg.s; constructor) | (apply Ab.asm; assumption) | rfl | infer_instance | decide))
      all_goals ((first | apply RetQ.ret | apply RetQ.normal); (case he => exact evr_); (case hg => rfl))
      all_goals first | rfl | exact Keeps.fr F4 (plR.nm rfl)
  · have hv : gfB l = false := by simp [gfB, hg]
    rw [hv]
    rw [ck_n hg] at c44
    rw [hs3] at F3
    (repeat' (first | (apply Ab.K.ev; exact ev_) | (apply Ab.K.aops; first | (apply Xg.s; constructor) | (apply Ab.S.guardU; (case hd => rfl); (case hb => (exact ev_; done))) | apply Ab.S.guardG) | (apply Ab.K.aop; first | (first | (apply Ab.O.alloc1 (N + 4); (case hid => exact T2.free (Nat.le_refl _)); (case hp => rfl)) | (apply Ab.O.makeFunc; (case h1 => exact evs_); (case h2 => exact evs_); (case a1 => rfl); (case a2 => rfl)) | (apply Ab.O.callFE; (case ha => exact evs_); (case hc => exact c45))) | (apply Og.s; constructor)) | (apply Ab.K.gk; first | (apply Xg.s; constructor) | (apply Ab.gY; case hw => assumption) | (apply Ab.gNT; case hw => assumption) | (apply Ab.gNF; case hw => assumption) | ((first | apply Ab.gD | apply Ab.gDN); all_goals (intro _ _; (first | contradiction | (exfalso; omega) | skip)))) | (apply Ab.K.awp; first | (apply Xg.s; constructor)) | (apply Ab.K.at_; exact at_) | (apply Ab.K.acall; first | assumption | first | exact c43 | exact c44) | (apply Ab.Rg.mk; omega) | (apply Ab.Lt.mk; first | decide | (simp; done) | (simp; omega) | fail) | (apply Ab.Get.mk; first | rfl | fail) | (apply Ab.Nm.mk; first | exact nrm_) | (apply Xg.s; constructor) | (apply Ab.asm; assumption) | rfl | infer_instance | decide))
    all_goals ((first | apply RetQ.ret | apply RetQ.normal); (case he => exact evr_); (case hg => rfl))
    all_goals first | rfl | exact Keeps.fr F3 (plR.nm rfl)
end Go.Proofs.Ytdbnpghckgmaoaa

/- trees: the first edge of a kind by a pure function; copies of edges. -/
namespace Go.Proofs.Ytdbnpghckgmaoaa
set_option linter.unusedVariables false
set_option linter.unusedSimpArgs false
set_option linter.unusedSectionVars false
open Go.RowKit Ab TP
theorem _root_.Go.Proofs.Ytdbnpghckgmaoaa.Ab.ACallE.toCall {P : Program} {f : FuncId} {args : List Value} {s s' : AHeap} {v : Value} {Q : Value → AHeap → Prop} (h : ACallE P f args s Q) (hq : ∀ v1 s1, Q v1 s1 → v1 = v ∧ s1 = s') : ACall P f args s v s' :=
  ⟨h.1, fun W0 ρ w args' ha hS => (h.2 W0 ρ w args' ha hS).mono fun e w' hh => by
    obtain ⟨v1, s1, ρ', v', q, r⟩ := hh
    obtain ⟨rfl, rfl⟩ := hq v1 s1 q
    exact ⟨ρ', v', r⟩⟩
attribute [local irreducible] AOps AOpsD AOp AWp put nargs AHeap.set At Free ACall ACallE thenQ blockQ roundQ RetQ RetE Src bsn
def atB (l : List E) (b : E → Bool) (i : Nat) : Bool := match l[i]? with
  | some e => b e
  | none => false
theorem atB_at {l : List E} {b : E → Bool} {i : Nat} {e : E} (h : l[i]? = some e) : atB l b i = b e := by unfold atB; rw [h]
theorem index38p {s : AHeap} {A : Option Addr} {n c : Nat} {on : Option Nat} {l : List E} {fn : FuncId} {caps : Array Value} {b : E → Bool} (h : EA s (.slice A n c) on l) (hF : ∀ e, e ∈ l → ACall Try.prog fn (.agg (ec e).toArray :: caps.toList) s (.bool (b e)) s) (hn : n ≤ 512) :
    ACallE Try.prog 53 [.slice A n c, .func (.func fn) #[] caps] s (fun v s' => s' = s ∧ ((∃ i e, i < n ∧ l[i]? = some e ∧ b e = true ∧ (∀ f ∈ l.take i, b f = false) ∧ v = .int .i64 i) ∨ ((∀ f ∈ l, b f = false) ∧ v = .int .i64 (-1)))) := by
  have hnl : n = l.length := by obtain ⟨_, _, e⟩ := h.isl; injection e
  refine (index38 (l := l) (b := atB l b) (fun _ s1 => s1 = s) (fun i s1 e => ⟨on, by rw [e]; exact h⟩) (fun i s1 e => by rw [e]; exact Ext.refl _) (fun i e s1 hi _ hs => ?_) rfl hn).mono fun v s' hh => ?_
  · rw [hs, atB_at hi]
    exact (hF e (List.mem_of_getElem? hi)).toE.mono fun v1 s2 hh => hh
  · have hall : ∀ k, k ≤ n → (∀ j, j < k → atB l b j = false) → ∀ f ∈ l.take k, b f = false := fun k hk hb f hf => by
      obtain ⟨j, hj⟩ := List.mem_iff_getElem?.1 hf
      have hjk : j < k := by have := (List.getElem?_eq_some_iff.1 hj).1; rw [List.length_take] at this; omega
      rw [List.getElem?_take, if_pos hjk] at hj
      exact (atB_at (b := b) hj).symm.trans (hb j hjk)
    rcases hh with ⟨i, h1, h2, h3, h4, h5⟩ | ⟨h1, h2, h3⟩
    · obtain ⟨e, he⟩ : ∃ e, l[i]? = some e := ⟨_, List.getElem?_eq_getElem (by omega)⟩
      rw [atB_at he] at h2
      exact ⟨h5, .inl ⟨i, e, h1, he, h2, hall i (by omega) h3, h4⟩⟩
    · exact ⟨h3, .inr ⟨by have := hall n (Nat.le_refl _) h1; rwa [hnl, List.take_length] at this, h2⟩⟩
/-! ### copies -/
theorem clone32_nil {s : AHeap} {c : Nat} : ACall Try.prog 38 [.slice none 0 c] s (.slice none 0 0) s := by
  (refine ACall.make Try.func38 rfl (by kernel_rfl) (by decide) rfl (fun N hN => ?_); have hT : Top N _ := hN; (repeat' (first | (apply Ab.K.ev; exact ev_) | (apply Ab.K.aops; first | (apply Xg.s; constructor) | (apply Ab.S.guardU; (case hd => rfl); (case hb => (exact ev_; done))) | apply Ab.S.guardG) | (apply Ab.K.aop; first | (apply Og.s; constructor)) | (apply Ab.K.gk; first | (apply Xg.s; constructor) | (apply Ab.gY; case hw => assumption) | (apply Ab.gNT; case hw => assumption) | (apply Ab.gNF; case hw => assumption) | ((first | apply Ab.gD | apply Ab.gDN); all_goals (intro _ _; (first | contradiction | (exfalso; omega) | skip)))) | (apply Ab.K.awp; first | (apply Xg.s; constructor)) | (apply Ab.K.at_; exact at_) | (apply Ab.K.acall; first | assumption | fail) | (apply Ab.Rg.mk; omega) | (apply Ab.Lt.mk; first | decide | (simp; done) | (simp; omega) | fail) | (apply Ab.Get.mk; first | rfl | fail) | (apply Ab.Nm.mk; first | exact nrm_) | (apply Xg.s; constructor) | (apply Ab.asm; assumption) | rfl | infer_instance | decide)); (all_goals ((first | apply RetQ.ret | apply RetQ.normal); (case he => exact evr_); (case hg => rfl))); (all_goals first | rfl | (apply Keeps.fr; (case h => exact fr_); (case hv => exact plR.nm rfl)) | fail))
theorem EA.cells {s : AHeap} {q n c : Nat} {on : Option Nat} {l : List E} (h : EA s (.slice (some ⟨q, 0, none⟩) n c) on l) : ∃ rw cs, At s q (.cells rw 3 cs) ∧ n = l.length ∧ n * 3 ≤ cs.length ∧ cs.take (n * 3) = ecs l := by
  cases h with
  | @blk q _ rw cs _ h a b =>
    refine ⟨rw, cs, h, rfl, ?_, b⟩
    have := congrArg List.length b
    rw [List.length_take, ecs_length] at this
    omega
theorem EA.nil_len {s : AHeap} {n c : Nat} {on : Option Nat} {l : List E} (h : EA s (.slice none n c) on l) : n = 0 ∧ c = 0 ∧ l = [] := by
  cases h with
  | nil => exact ⟨rfl, rfl, rfl⟩
theorem EA.addr {s : AHeap} {A : Option Addr} {n c : Nat} {on : Option Nat} {l : List E} (h : EA s (.slice A n c) on l) : A = none ∨ ∃ q, A = some ⟨q, 0, none⟩ := by
  cases h with
  | nil => exact .inl rfl
  | blk => exact .inr ⟨_, rfl⟩
theorem clone32 {s : AHeap} {q n c o : Nat} {on : Option Nat} {l : List E} (h : EA s (.slice (some ⟨q, 0, none⟩) n c) on l) (hn : n ≤ 512) (ho : s o = none) :
    ACall Try.prog 38 [.slice (some ⟨q, 0, none⟩) n c] s (.slice (some ⟨o, 0, none⟩) n n) (s.set o (.cells true 3 (ecs l))) := by
  obtain ⟨rw1, cs, hA, hnl, hcs, htk⟩ := h.cells
  have hbo : q ≠ o := fun e => by subst e; rw [hA.eq] at ho; cases ho
  have hfo : Free s o := free_of ho
  refine ACall.make Try.func38 rfl (by kernel_rfl) (by decide) rfl (fun N hN => ?_)
  have hT : Top N s := hN
  by_cases hn0 : n = 0
  · subst hn0
    obtain rfl : l = [] := List.length_eq_zero_iff.1 hnl.symm
    (repeat' (first | (apply Ab.K.ev; exact ev_) | (apply Ab.K.aops; first | (apply Xg.s; constructor) | (apply Ab.S.guardU; (case hd => rfl); (case hb => (exact ev_; done))) | apply Ab.S.guardG) | (apply Ab.K.aop; first | (first | (apply Ab.O.build0 o (te := ⟨.struct [(0, 3), (1, 3), (2, 3)], 3, 24, .agg #[.int .i64 0, .int .i64 0, .int .i64 0]⟩); (case hz => exact ⟨rfl, rfl⟩); (case hid => exact hfo)) | (apply Ab.O.appendNone; (case hx => exact ev_); (case hy => exact ev_); (case hs => exact Src.none); (case hk => rfl))) | (apply Og.s; constructor)) | (apply Ab.K.gk; first | (apply Xg.s; constructor) | (apply Ab.gY; case hw => assumption) | (apply Ab.gNT; case hw => assumption) | (apply Ab.gNF; case hw => assumption) | ((first | apply Ab.gD | apply Ab.gDN); all_goals (intro _ _; (first | contradiction | (exfalso; omega) | skip)))) | (apply Ab.K.awp; first | (apply Xg.s; constructor)) | (apply Ab.K.at_; exact at_) | (apply Ab.K.acall; first | assumption | fail) | (apply Ab.Rg.mk; omega) | (apply Ab.Lt.mk; first | decide | (simp; done) | (simp; omega) | fail) | (apply Ab.Get.mk; first | rfl | fail) | (apply Ab.Nm.mk; first | exact nrm_) | (apply Xg.s; constructor) | (apply Ab.asm; assumption) | rfl | infer_instance | decide))
    all_goals ((first | apply RetQ.ret | apply RetQ.normal); (case he => exact evr_); (case hg => rfl))
    · rfl
    · exact Keeps.upd [(o, .cells true 3 [])] (Fr.set (by simp) (Fr.refl _ _)) ⟨⟨At.hit, by intro x hx; cases hx⟩, trivial⟩ (by simp [nmR, nmB, nm1, nmA, updH, AHeap.set_same])
  · have hbN : q < N := hT.lt hA
    have hm : N + o + 1 ≠ o := by omega
    (repeat' (first | (apply Ab.K.ev; exact ev_) | (apply Ab.K.aops; first | (apply Xg.s; constructor) | (apply Ab.S.guardU; (case hd => rfl); (case hb => (exact ev_; done))) | apply Ab.S.guardG) | (apply Ab.K.aop; first | (apply Ab.O.build0 (N + o + 1) (te := ⟨.struct [(0, 3), (1, 3), (2, 3)], 3, 24, .agg #[.int .i64 0, .int .i64 0, .int .i64 0]⟩); (case hz => exact ⟨rfl, rfl⟩); (case hid => exact free_)) | (apply Og.s; constructor)) | (apply Ab.K.gk; first | (apply Xg.s; constructor) | (apply Ab.gY; case hw => assumption) | (apply Ab.gNT; case hw => assumption) | (apply Ab.gNF; case hw => assumption) | ((first | apply Ab.gD | apply Ab.gDN); all_goals (intro _ _; (first | contradiction | (exfalso; omega) | skip)))) | (apply Ab.K.awp; first | (apply Xg.s; constructor)) | (apply Ab.K.at_; exact at_) | (apply Ab.K.acall; first | assumption | fail) | (apply Ab.Rg.mk; omega) | (apply Ab.Lt.mk; first | decide | (simp; done) | (simp; omega) | fail) | (apply Ab.Get.mk; first | rfl | fail) | (apply Ab.Nm.mk; first | exact nrm_) | (apply Xg.s; constructor) | (apply Ab.asm; assumption) | rfl | infer_instance | decide))
    refine O.appendL o (v := .slice (some ⟨N + o + 1, 0, none⟩) 0 0) (vy := .slice (some ⟨q, 0, none⟩) n c) (es := 3) (n := 0) (m := n) (xs := []) (ys := ecs l) (on := some (N + o + 1)) ?_ (LAt.blk At.hit rfl) ?_ (Src.sl (At.miss (by omega) hA) hn0 (by omega) (by rw [List.drop_zero]; exact htk)) rfl hn0 (by rw [ecs_length, hnl]) (by decide) (by omega) (by exact free_) ?_
    · exact ev_
    · exact ev_
    intro s2 g
    (repeat' (first | (apply Ab.K.ev; exact ev_) | (apply Ab.K.aops; first | (apply Xg.s; constructor) | (apply Ab.S.guardU; (case hd => rfl); (case hb => (exact ev_; done))) | apply Ab.S.guardG) | (apply Ab.K.aop; first | (apply Og.s; constructor)) | (apply Ab.K.gk; first | (apply Xg.s; constructor) | (apply Ab.gY; case hw => assumption) | (apply Ab.gNT; case hw => assumption) | (apply Ab.gNF; case hw => assumption) | ((first | apply Ab.gD | apply Ab.gDN); all_goals (intro _ _; (first | contradiction | (exfalso; omega) | skip)))) | (apply Ab.K.awp; first | (apply Xg.s; constructor)) | (apply Ab.K.at_; exact at_) | (apply Ab.K.acall; first | assumption | fail) | (apply Ab.Rg.mk; omega) | (apply Ab.Lt.mk; first | decide | (simp; done) | (simp; omega) | fail) | (apply Ab.Get.mk; first | rfl | fail) | (apply Ab.Nm.mk; first | exact nrm_) | (apply Xg.s; constructor) | (apply Ab.asm; assumption) | rfl | infer_instance | decide))
    all_goals ((first | apply RetQ.ret | apply RetQ.normal); (case he => exact evr_); (case hg => rfl))
    · simp only [resV, Nat.zero_add]
    · have f0 : Fr (s.set (N + o + 1) (.cells true 3 [])) s [o] := Fr.new (hT.free (by omega)) (Fr.refl _ _)
      have f2 : Fr s2 s [o] := g.fr f0 (fun q e => .inl (by obtain rfl := Option.some.inj e; exact hT.none (by omega)))
      have hh := g.hit
      rw [List.nil_append] at hh
      exact Keeps.upd [(o, .cells true 3 (ecs l))] f2 ⟨⟨hh, nm_scal (ecs_pl _)⟩, trivial⟩ (by simp [nmR, nmB, nm1, nmA, updH, AHeap.set_same])
end Go.Proofs.Ytdbnpghckgmaoaa

/- trees: the program's list of the linked. -/
namespace Go.Proofs.Ytdbnpghckgmaoaa
set_option linter.unusedVariables false
set_option linter.unusedSimpArgs false
set_option linter.unusedSectionVars false
open Go.RowKit Ab TP
attribute [local irreducible] AOps AOpsD AOp AWp put nargs AHeap.set At Free ACall ACallE thenQ blockQ roundQ RetQ RetE Src bsn Gr
set_option maxHeartbeats 4000000 in
theorem linked34 {s : AHeap} {A : Option Addr} {n c : Nat} {on : Option Nat} {l : List E} {a : Int} {o : Nat} (h : EA s (.slice A n c) on l) (hg : TP.Good l) (ha : TP.Node a) (hn : n ≤ 512) (ho : s o = none) :
    ACall Try.prog 36 [.slice A n c, .int .i64 a] s (.slice (some ⟨o, 0, none⟩) (side l a).length (side l a).length) (s.set o (.cells true 1 (ints (side l a)))) := by
  have c30 := ups30 h hg ha hn
  refine ACall.make Try.func36 rfl (by kernel_rfl) (by decide) rfl (fun N hN => ?_)
  have hT : Top N s := hN
  (repeat' (first | (apply Ab.K.ev; exact ev_) | (apply Ab.K.aops; first | (apply Xg.s; constructor) | (apply Ab.S.guardU; (case hd => rfl); (case hb => (exact ev_; done))) | apply Ab.S.guardG) | (apply Ab.K.aop; first | (apply Ab.O.callFE; (case ha => exact evs_); (case hc => exact c30)) | (apply Og.s; constructor)) | (apply Ab.K.gk; first | (apply Xg.s; constructor) | (apply Ab.gY; case hw => assumption) | (apply Ab.gNT; case hw => assumption) | (apply Ab.gNF; case hw => assumption) | ((first | apply Ab.gD | apply Ab.gDN); all_goals (intro _ _; (first | contradiction | (exfalso; omega) | skip)))) | (apply Ab.K.awp; first | (apply Xg.s; constructor)) | (apply Ab.K.at_; exact at_) | (apply Ab.K.acall; first | assumption | fail) | (apply Ab.Rg.mk; omega) | (apply Ab.Lt.mk; first | decide | (simp; done) | (simp; omega) | fail) | (apply Ab.Get.mk; first | rfl | fail) | (apply Ab.Nm.mk; first | exact nrm_) | (apply Xg.s; constructor) | (apply Ab.asm; assumption) | rfl | infer_instance | decide))
  rintro v s2 ⟨U, Q, u, rfl, hu, rfl, B⟩
  clear c30
  obtain ⟨M0, hM0⟩ : ∃ M0, M0 = max N (u + 1) := ⟨_, rfl⟩
  have T0 : Top M0 (s.set u (.cells true 1 (ints U))) := (hT.mono (by omega)).set (by omega)
  have F0 : Fr (s.set u (.cells true 1 (ints U))) s [] := Fr.new (free_of hu) (Fr.refl _ _)
  have hz0 : JP.g U 0 = 0 := by
    by_cases h0 : JP.g U 0 = 0
    · exact h0
    · have := B.node 0 ((B.mem 0 (by omega) (by omega)).1 h0); exact absurd this.1 (by omega)
  have hU := B.len
  (repeat' (first | (apply Ab.K.ev; exact ev_) | (apply Ab.K.aops; first | (apply Xg.s; constructor) | (apply Ab.S.guardU; (case hd => rfl); (case hb => (exact ev_; done))) | apply Ab.S.guardG) | (apply Ab.K.aop; first | (apply Og.s; constructor)) | (apply Ab.K.gk; first | (apply Xg.s; constructor) | (apply Ab.gY; case hw => assumption) | (apply Ab.gNT; case hw => assumption) | (apply Ab.gNF; case hw => assumption) | ((first | apply Ab.gD | apply Ab.gDN); all_goals (intro _ _; (first | contradiction | (exfalso; omega) | skip)))) | (apply Ab.K.awp; first | (apply Xg.s; constructor)) | (apply Ab.K.at_; exact at_) | (apply Ab.K.acall; first | assumption | fail) | (apply Ab.Rg.mk; omega) | (apply Ab.Lt.mk; first | decide | (simp; done) | (simp; omega) | fail) | (apply Ab.Get.mk; first | rfl | fail) | (apply Ab.Nm.mk; first | exact nrm_) | (apply Xg.s; constructor) | (apply Ab.asm; assumption) | rfl | infer_instance | decide))
  refine AWp.loop (fun kk tm s1 => ∃ (i k M : Nat) (v : Value) (on : Option Nat) (r : List Int), Ev tm (.tmp 5) v ∧ Ev tm (.tmp 10) (.slice (some ⟨u, 0, none⟩) 65 65) ∧ Ev tm (.tmp 11) (.int .i64 (65 : Nat)) ∧ Ev tm (.tmp 12) (.int .i64 i) ∧ At s1 u (.cells true 1 (ints U)) ∧ Gr s1 1 M0 v on k (ints r) ∧ k = r.length ∧ r = lkN (reachB l a) (i - 1) ∧ Fr s1 s [] ∧ Top M s1 ∧ M0 ≤ M ∧ i ≤ 65 ∧ kk = 65 - i) 65 ?_ ?_
  · exact ⟨0, 0, M0, _, _, [], by exact ev_, by exact ev_, by exact ev_, by exact ev_, by exact at_, Gr.nil, rfl, rfl, F0, T0, Nat.le_refl _, by omega, rfl⟩
  clear T0 F0
  rintro kk tm s1 ⟨i, k, M, v, on, r, e5, e10, e11, e12, au, G, hk, hr, F, T, hMM, hi, hkk⟩
  have hlt := G.lt T
  have hge := G.from_
  have huM := T.lt au
  have hlen := lkN_len (f := reachB l a) (k := i - 1)
  rw [← hr] at hlen
  by_cases hin : i < 65
  · have gU := ints_at (l := U) (i := (i : Int)) ⟨by omega, by rw [B.len]; omega⟩
    rw [Int.toNat_natCast] at gU
    by_cases hz : JP.g U i = 0
    · have hr1 : r = lkN (reachB l a) (i + 1 - 1) := by
        cases i with
        | zero => exact hr
        | succ j =>
          have hb : reachB l a (j + 1) = false := by
            rw [← B.reach ha (i := j + 1) (by omega)]; simp; exact hz
          rw [hr]; show lkN _ j = lkN _ (j + 1)
          rw [lkN, if_neg (by rw [hb]; decide), List.append_nil]
      rw [hz] at gU
      (repeat' (first | (apply Ab.K.ev; exact ev_) | (apply Ab.K.aops; first | (apply Xg.s; constructor) | (apply Ab.S.guardU; (case hd => rfl); (case hb => (exact ev_; done))) | apply Ab.S.guardG) | (apply Ab.K.aop; first | (apply Og.s; constructor)) | (apply Ab.K.gk; first | (apply Xg.s; constructor) | (apply Ab.gY; case hw => assumption) | (apply Ab.gNT; case hw => assumption) | (apply Ab.gNF; case hw => assumption) | ((first | apply Ab.gD | apply Ab.gDN); all_goals (intro _ _; (first | contradiction | (exfalso; omega) | skip)))) | (apply Ab.K.awp; first | (apply Xg.s; constructor)) | (apply Ab.K.at_; exact at_) | (apply Ab.K.acall; first | assumption | fail) | (apply Ab.Rg.mk; omega) | (apply Ab.Lt.mk; first | decide | (simp; done) | (simp; omega) | fail) | (apply Ab.Get.mk; first | rfl | (rw [Int.toNat_natCast]; exact gU)) | (apply Ab.Nm.mk; first | exact nrm_) | (apply Xg.s; constructor) | (apply Ab.asm; assumption) | rfl | infer_instance | decide))
      exact X.roundN (65 - (i + 1)) (by omega) ⟨i + 1, k, M, v, on, r, by exact ev_, by exact ev_, by exact ev_, by exact ev_, au, G, hk, hr1, F, T, hMM, by omega, rfl⟩
    · have hr1 : r ++ [(i : Int)] = lkN (reachB l a) (i + 1 - 1) := by
        cases i with
        | zero => exact absurd hz0 hz
        | succ j =>
          have hb : reachB l a (j + 1) = true := by
            rw [← B.reach ha (i := j + 1) (by omega)]; simpa using hz
          rw [hr]; show lkN _ j ++ _ = lkN _ (j + 1)
          rw [lkN, if_pos hb]
      (repeat' (first | (apply Ab.K.ev; exact ev_) | (apply Ab.K.aops; first | (apply Xg.s; constructor) | (apply Ab.S.guardU; (case hd => rfl); (case hb => (exact ev_; done))) | apply Ab.S.guardG) | (apply Ab.K.aop; first | (apply Ab.O.build1 (M); (case hx => exact ev_); (case hv => exact ⟨rfl, rfl⟩); (case hz => exact ⟨rfl, rfl⟩); (case hid => exact free_)) | (apply Og.s; constructor)) | (apply Ab.K.gk; first | (apply Xg.s; constructor) | (apply Ab.gY; case hw => assumption) | (apply Ab.gNT; case hw => assumption) | (apply Ab.gNF; case hw => assumption) | ((first | apply Ab.gD | apply Ab.gDN); all_goals (intro _ _; (first | contradiction | (exfalso; omega) | skip)))) | (apply Ab.K.awp; first | (apply Xg.s; constructor)) | (apply Ab.K.at_; exact at_) | (apply Ab.K.acall; first | assumption | fail) | (apply Ab.Rg.mk; omega) | (apply Ab.Lt.mk; first | decide | (simp; done) | (simp; omega) | fail) | (apply Ab.Get.mk; first | rfl | (rw [Int.toNat_natCast]; exact gU)) | (apply Ab.Nm.mk; first | exact nrm_) | (apply Xg.s; constructor) | (apply Ab.asm; assumption) | rfl | infer_instance | decide))
      have G1 := G.set (id := M) (b := .cells true 1 [.int .i64 i]) (fun q e => by have := hlt q e; omega)
      (apply Ab.O.appendL (M + 1); (case hx => exact ev_); (case hL => exact Ab.Gr.lat (by assumption)); (case hy => exact ev_); (case hs => exact srcAll At.hit rfl); (case hk => rfl); (case hm => decide); (case hl => first | rfl | simp); (case hz => decide); (case hb => omega); (case hfree => exact free_))
      intro s3 g
      have T2 := G1.topN g T.new
      have F2 := G1.frN g (Fr.new (hT.free (by omega)) F) (hT.mono (by omega))
      have au' := Gr.off g (At.miss (by omega) au) (fun q e => by have := hge q e; omega) (by omega)
      rw [show ints r ++ [.int .i64 i] = ints (r ++ [(i : Int)]) from by rw [ints_append]; rfl] at g
      have G2 : Gr s3 1 M0 _ _ (k + 1) _ := Gr.app g (by rw [ints_length, List.length_append, hk, Nat.mul_one]; rfl) (by omega)
      (repeat' (first | (apply Ab.K.ev; exact ev_) | (apply Ab.K.aops; first | (apply Xg.s; constructor) | (apply Ab.S.guardU; (case hd => rfl); (case hb => (exact ev_; done))) | apply Ab.S.guardG) | (apply Ab.K.aop; first | (apply Og.s; constructor)) | (apply Ab.K.gk; first | (apply Xg.s; constructor) | (apply Ab.gY; case hw => assumption) | (apply Ab.gNT; case hw => assumption) | (apply Ab.gNF; case hw => assumption) | ((first | apply Ab.gD | apply Ab.gDN); all_goals (intro _ _; (first | contradiction | (exfalso; omega) | skip)))) | (apply Ab.K.awp; first | (apply Xg.s; constructor)) | (apply Ab.K.at_; exact at_) | (apply Ab.K.acall; first | assumption | fail) | (apply Ab.Rg.mk; omega) | (apply Ab.Lt.mk; first | decide | (simp; done) | (simp; omega) | fail) | (apply Ab.Get.mk; first | rfl | (rw [Int.toNat_natCast]; exact gU)) | (apply Ab.Nm.mk; first | exact nrm_) | (apply Xg.s; constructor) | (apply Ab.asm; assumption) | rfl | infer_instance | decide))
      exact X.roundN (65 - (i + 1)) (by omega) ⟨i + 1, k + 1, M + 2, _, _, r ++ [(i : Int)], by exact ev_, by exact ev_, by exact ev_, by exact ev_, au', G2, by rw [List.length_append, hk]; rfl, hr1, F2, T2, by omega, by omega, rfl⟩
  · obtain rfl : i = 65 := by omega
    have hs : r = side l a := hr
    have hpos : k ≠ 0 := fun e => by
      have hm := (side_mem (Good.node hg) ha (x := a)).2 (.refl a)
      rw [← hs, List.length_eq_zero_iff.1 (hk.symm.trans e)] at hm; cases hm
    obtain ⟨q, rfl, rfl, aq, _, hq⟩ := G.own hpos
    rw [← hs, ← hk]
    (repeat' (first | (apply Ab.K.ev; exact ev_) | (apply Ab.K.aops; first | (apply Xg.s; constructor) | (apply Ab.S.guardU; (case hd => rfl); (case hb => (exact ev_; done))) | apply Ab.S.guardG) | (apply Ab.K.aop; first | (apply Og.s; constructor)) | (apply Ab.K.gk; first | (apply Xg.s; constructor) | (apply Ab.gY; case hw => assumption) | (apply Ab.gNT; case hw => assumption) | (apply Ab.gNF; case hw => assumption) | ((first | apply Ab.gD | apply Ab.gDN); all_goals (intro _ _; (first | contradiction | (exfalso; omega) | skip)))) | (apply Ab.K.awp; first | (apply Xg.s; constructor)) | (apply Ab.K.at_; exact at_) | (apply Ab.K.acall; first | assumption | fail) | (apply Ab.Rg.mk; omega) | (apply Ab.Lt.mk; first | decide | (simp; done) | (simp; omega) | fail) | (apply Ab.Get.mk; first | rfl | (rw [Int.toNat_natCast]; exact gU)) | (apply Ab.Nm.mk; first | exact nrm_) | (apply Xg.s; constructor) | (apply Ab.asm; assumption) | rfl | infer_instance | decide))
    apply RetQ.retR (renL (dn [(o, q, .cells true 1 (ints r))]))
    (case he => exact evr_)
    (case hg => rfl)
    · simp [resV, mpR, mpB, mp1, mpA, renL_hit]
    · exact KeepsR.new1 ho (hT.none (by omega)) F aq (ints_pl _) rfl
    · simp
end Go.Proofs.Ytdbnpghckgmaoaa

/- trees: the program's ways. -/
namespace Go.Proofs.Ytdbnpghckgmaoaa
set_option linter.unusedVariables false
set_option linter.unusedSimpArgs false
set_option linter.unusedSectionVars false
open Go.RowKit Ab TP
attribute [local irreducible] AOps AOpsD AOp AWp put nargs AHeap.set At Free ACall ACallE thenQ blockQ roundQ RetQ RetE Src bsn
/-- What the program's way answers. -/
noncomputable def wOk (l : List E) (a b : Int) : Bool := gfB l && (decide (TP.Node a) && decide (TP.Node b))
theorem wOk_iff {l : List E} {a b : Int} : wOk l a b = true ↔ TP.Good l ∧ Forest l ∧ TP.Node a ∧ TP.Node b := by
  unfold wOk gfB
  simp only [Bool.and_eq_true, decide_eq_true_iff, foB_iff, and_assoc]
theorem way11_no {s : AHeap} {A : Option Addr} {n c : Nat} {on : Option Nat} {l : List E} {a b : Int} (h : EA s (.slice A n c) on l) (hn : n ≤ 512) (hno : wOk l a b = false) :
    ACall Try.prog 34 [.slice A n c, .int .i64 a, .int .i64 b] s (.tuple #[.slice none 0 0, .int .i64 1]) s := by
  have c28 := forest28 h hn
  have na : ACall Try.prog 20 [.int .i64 a] s (.bool (decide (TP.Node a))) s := node29
  have nb : ACall Try.prog 20 [.int .i64 b] s (.bool (decide (TP.Node b))) s := node29

  cases hgf : gfB l
  · rw [hgf] at c28
    (refine ACall.make Try.func34 rfl (by kernel_rfl) (by decide) rfl (fun N hN => ?_); have hT : Top N _ := hN; (repeat' (first | (apply Ab.K.ev; exact ev_) | (apply Ab.K.aops; first | (apply Xg.s; constructor) | (apply Ab.S.guardU; (case hd => rfl); (case hb => (exact ev_; done))) | apply Ab.S.guardG) | (apply Ab.K.aop; first | (apply Og.s; constructor)) | (apply Ab.K.gk; first | (apply Xg.s; constructor) | (apply Ab.gY; case hw => assumption) | (apply Ab.gNT; case hw => assumption) | (apply Ab.gNF; case hw => assumption) | ((first | apply Ab.gD | apply Ab.gDN); all_goals (intro _ _; (first | contradiction | (exfalso; omega) | skip)))) | (apply Ab.K.awp; first | (apply Xg.s; constructor)) | (apply Ab.K.at_; exact at_) | (apply Ab.K.acall; first | assumption | first | exact c28 | exact na | exact nb) | (apply Ab.Rg.mk; omega) | (apply Ab.Lt.mk; first | decide | (simp; done) | (simp; omega) | fail) | (apply Ab.Get.mk; first | rfl | fail) | (apply Ab.Nm.mk; first | exact nrm_) | (apply Xg.s; constructor) | (apply Ab.asm; assumption) | rfl | infer_instance | decide)); (all_goals ((first | apply RetQ.ret | apply RetQ.normal); (case he => exact evr_); (case hg => rfl))); (all_goals first | rfl | (apply Keeps.fr; (case h => exact fr_); (case hv => exact plR.nm rfl)) | fail))
  · rw [hgf] at c28
    by_cases ha : TP.Node a
    · rw [decide_eq_true ha] at na
      by_cases hb : TP.Node b
      · exfalso; rw [wOk, hgf, decide_eq_true ha, decide_eq_true hb] at hno; cases hno
      · rw [decide_eq_false hb] at nb
        (refine ACall.make Try.func34 rfl (by kernel_rfl) (by decide) rfl (fun N hN => ?_); have hT : Top N _ := hN; (repeat' (first | (apply Ab.K.ev; exact ev_) | (apply Ab.K.aops; first | (apply Xg.s; constructor) | (apply Ab.S.guardU; (case hd => rfl); (case hb => (exact ev_; done))) | apply Ab.S.guardG) | (apply Ab.K.aop; first | (apply Og.s; constructor)) | (apply Ab.K.gk; first | (apply Xg.s; constructor) | (apply Ab.gY; case hw => assumption) | (apply Ab.gNT; case hw => assumption) | (apply Ab.gNF; case hw => assumption) | ((first | apply Ab.gD | apply Ab.gDN); all_goals (intro _ _; (first | contradiction | (exfalso; omega) | skip)))) | (apply Ab.K.awp; first | (apply Xg.s; constructor)) | (apply Ab.K.at_; exact at_) | (apply Ab.K.acall; first | assumption | first | exact c28 | exact na | exact nb) | (apply Ab.Rg.mk; omega) | (apply Ab.Lt.mk; first | decide | (simp; done) | (simp; omega) | fail) | (apply Ab.Get.mk; first | rfl | fail) | (apply Ab.Nm.mk; first | exact nrm_) | (apply Xg.s; constructor) | (apply Ab.asm; assumption) | rfl | infer_instance | decide)); (all_goals ((first | apply RetQ.ret | apply RetQ.normal); (case he => exact evr_); (case hg => rfl))); (all_goals first | rfl | (apply Keeps.fr; (case h => exact fr_); (case hv => exact plR.nm rfl)) | fail))
    · rw [decide_eq_false ha] at na
      (refine ACall.make Try.func34 rfl (by kernel_rfl) (by decide) rfl (fun N hN => ?_); have hT : Top N _ := hN; (repeat' (first | (apply Ab.K.ev; exact ev_) | (apply Ab.K.aops; first | (apply Xg.s; constructor) | (apply Ab.S.guardU; (case hd => rfl); (case hb => (exact ev_; done))) | apply Ab.S.guardG) | (apply Ab.K.aop; first | (apply Og.s; constructor)) | (apply Ab.K.gk; first | (apply Xg.s; constructor) | (apply Ab.gY; case hw => assumption) | (apply Ab.gNT; case hw => assumption) | (apply Ab.gNF; case hw => assumption) | ((first | apply Ab.gD | apply Ab.gDN); all_goals (intro _ _; (first | contradiction | (exfalso; omega) | skip)))) | (apply Ab.K.awp; first | (apply Xg.s; constructor)) | (apply Ab.K.at_; exact at_) | (apply Ab.K.acall; first | assumption | first | exact c28 | exact na | exact nb) | (apply Ab.Rg.mk; omega) | (apply Ab.Lt.mk; first | decide | (simp; done) | (simp; omega) | fail) | (apply Ab.Get.mk; first | rfl | fail) | (apply Ab.Nm.mk; first | exact nrm_) | (apply Xg.s; constructor) | (apply Ab.asm; assumption) | rfl | infer_instance | decide)); (all_goals ((first | apply RetQ.ret | apply RetQ.normal); (case he => exact evr_); (case hg => rfl))); (all_goals first | rfl | (apply Keeps.fr; (case h => exact fr_); (case hv => exact plR.nm rfl)) | fail))
theorem ups_next {U : List Int} {root a : Int} {p : List Int} (h : Ups U root a p) : ∀ {k : Nat} {x : Int}, p[k]? = some x → (x = root ∧ k + 1 = p.length) ∨ (x ≠ root ∧ p[k + 1]? = some (JP.g U x)) := by
  induction h with
  | one =>
    intro k x hx
    cases k with
    | zero => simp at hx; exact .inl ⟨hx.symm, rfl⟩
    | succ k => simp at hx
  | cons hn r ih =>
    rename_i a p
    intro k x hx
    cases k with
    | zero =>
      simp at hx; subst hx
      refine .inr ⟨hn, ?_⟩
      cases r <;> rfl
    | succ k =>
      rw [List.getElem?_cons_succ] at hx
      rcases ih hx with ⟨h1, h2⟩ | ⟨h1, h2⟩
      · exact .inl ⟨h1, by rw [List.length_cons]; omega⟩
      · exact .inr ⟨h1, by rw [List.getElem?_cons_succ]; exact h2⟩
theorem way11_none {s : AHeap} {A : Option Addr} {n c : Nat} {on : Option Nat} {l : List E} {a b : Int} (h : EA s (.slice A n c) on l) (hn : n ≤ 512) (hok : wOk l a b = true) (hc : ¬ Conn l a b) :
    ACall Try.prog 34 [.slice A n c, .int .i64 a, .int .i64 b] s (.tuple #[.slice none 0 0, .int .i64 9]) s := by
  obtain ⟨hg, hf, ha, hb⟩ := wOk_iff.1 hok
  have c28 := forest28 h hn
  have na : ACall Try.prog 20 [.int .i64 a] s (.bool (decide (TP.Node a))) s := node29
  have nb : ACall Try.prog 20 [.int .i64 b] s (.bool (decide (TP.Node b))) s := node29
  rw [show gfB l = true from by simp [gfB, hg, foB_iff.2 hf]] at c28
  rw [decide_eq_true ha] at na
  rw [decide_eq_true hb] at nb
  have c30 := ups30 h hg hb hn
  have ha' : 1 ≤ a ∧ a ≤ 64 := ha
  refine ACall.make Try.func34 rfl (by kernel_rfl) (by decide) rfl (fun N hN => ?_)
  have hT : Top N s := hN

  (repeat' (first | (apply Ab.K.ev; exact ev_) | (apply Ab.K.aops; first | (apply Xg.s; constructor) | (apply Ab.S.guardU; (case hd => rfl); (case hb => (exact ev_; done))) | apply Ab.S.guardG) | (apply Ab.K.aop; first | (apply Ab.O.callFE; (case ha => exact evs_); (case hc => exact c30)) | (apply Og.s; constructor)) | (apply Ab.K.gk; first | (apply Xg.s; constructor) | (apply Ab.gY; case hw => assumption) | (apply Ab.gNT; case hw => assumption) | (apply Ab.gNF; case hw => assumption) | ((first | apply Ab.gD | apply Ab.gDN); all_goals (intro _ _; (first | contradiction | (exfalso; omega) | skip)))) | (apply Ab.K.awp; first | (apply Xg.s; constructor)) | (apply Ab.K.at_; exact at_) | (apply Ab.K.acall; first | assumption | first | exact c28 | exact na | exact nb) | (apply Ab.Rg.mk; omega) | (apply Ab.Lt.mk; first | decide | (simp; done) | (simp; omega) | fail) | (apply Ab.Get.mk; first | rfl | fail) | (apply Ab.Nm.mk; first | exact nrm_) | (apply Xg.s; constructor) | (apply Ab.asm; assumption) | rfl | infer_instance | decide))

  rintro v s2 ⟨U, Q, u, rfl, hu, rfl, B⟩
  have hinU : JP.In U a := ⟨by omega, by rw [B.len]; omega⟩
  have gU := ints_at hinU
  have hz : JP.g U a = 0 := by
    by_cases h0 : JP.g U a = 0
    · exact h0
    · exact absurd ((B.done).1 ((B.mem a (by omega) (by omega)).1 h0)).symm hc
  rw [hz] at gU
  have F : Fr (s.set u (.cells true 1 (ints U))) s [] := Fr.new (free_of hu) (Fr.refl _ _)
  (repeat' (first | (apply Ab.K.ev; exact ev_) | (apply Ab.K.aops; first | (apply Xg.s; constructor) | (apply Ab.S.guardU; (case hd => rfl); (case hb => (exact ev_; done))) | apply Ab.S.guardG) | (apply Ab.K.aop; first | (apply Og.s; constructor)) | (apply Ab.K.gk; first | (apply Xg.s; constructor) | (apply Ab.gY; case hw => assumption) | (apply Ab.gNT; case hw => assumption) | (apply Ab.gNF; case hw => assumption) | ((first | apply Ab.gD | apply Ab.gDN); all_goals (intro _ _; (first | contradiction | (exfalso; omega) | skip)))) | (apply Ab.K.awp; first | (apply Xg.s; constructor)) | (apply Ab.K.at_; exact at_) | (apply Ab.K.acall; first | assumption | fail) | (apply Ab.Rg.mk; omega) | (apply Ab.Lt.mk; first | decide | (simp; done) | (simp; omega) | fail) | (apply Ab.Get.mk; first | rfl | first | exact gU | (rw [Nat.mul_one]; exact gU)) | (apply Ab.Nm.mk; first | exact nrm_) | (apply Xg.s; constructor) | (apply Ab.asm; assumption) | rfl | infer_instance | decide))
  all_goals ((first | apply RetQ.ret | apply RetQ.normal); (case he => exact evr_); (case hg => rfl))
  all_goals first | rfl | exact Keeps.fr F (plR.nm rfl)
set_option maxHeartbeats 4000000 in
theorem way11_yes {s : AHeap} {A : Option Addr} {n c : Nat} {on : Option Nat} {l : List E} {a b : Int} {p : List Int} {o : Nat} (h : EA s (.slice A n c) on l) (hn : n ≤ 512) (hok : wOk l a b = true) (hw : TP.Way l a b p) (ho : s o = none) :
    ACall Try.prog 34 [.slice A n c, .int .i64 a, .int .i64 b] s (.tuple #[.slice (some ⟨o, 0, none⟩) p.length p.length, .int .i64 0]) (s.set o (.cells true 1 (ints p))) := by
  obtain ⟨hg, hf, ha, hb⟩ := wOk_iff.1 hok
  have c28 := forest28 h hn
  have na : ACall Try.prog 20 [.int .i64 a] s (.bool (decide (TP.Node a))) s := node29
  have nb : ACall Try.prog 20 [.int .i64 b] s (.bool (decide (TP.Node b))) s := node29
  rw [show gfB l = true from by simp [gfB, hg, foB_iff.2 hf]] at c28
  rw [decide_eq_true ha] at na
  rw [decide_eq_true hb] at nb
  have c30 := ups30 h hg hb hn
  have ha' : 1 ≤ a ∧ a ≤ 64 := ha
  have hcut := hf.cut hg.2.nodup
  have hnodes := hw.nodes (Good.node hg) ha
  have hp64 := hw.short (Good.node hg) ha
  refine ACall.make Try.func34 rfl (by kernel_rfl) (by decide) rfl (fun N hN => ?_)
  have hT : Top N s := hN

  (repeat' (first | (apply Ab.K.ev; exact ev_) | (apply Ab.K.aops; first | (apply Xg.s; constructor) | (apply Ab.S.guardU; (case hd => rfl); (case hb => (exact ev_; done))) | apply Ab.S.guardG) | (apply Ab.K.aop; first | (apply Ab.O.callFE; (case ha => exact evs_); (case hc => exact c30)) | (apply Og.s; constructor)) | (apply Ab.K.gk; first | (apply Xg.s; constructor) | (apply Ab.gY; case hw => assumption) | (apply Ab.gNT; case hw => assumption) | (apply Ab.gNF; case hw => assumption) | ((first | apply Ab.gD | apply Ab.gDN); all_goals (intro _ _; (first | contradiction | (exfalso; omega) | skip)))) | (apply Ab.K.awp; first | (apply Xg.s; constructor)) | (apply Ab.K.at_; exact at_) | (apply Ab.K.acall; first | assumption | first | exact c28 | exact na | exact nb) | (apply Ab.Rg.mk; omega) | (apply Ab.Lt.mk; first | decide | (simp; done) | (simp; omega) | fail) | (apply Ab.Get.mk; first | rfl | first | exact gU | (rw [Nat.mul_one]; exact gU)) | (apply Ab.Nm.mk; first | exact nrm_) | (apply Xg.s; constructor) | (apply Ab.asm; assumption) | rfl | infer_instance | decide))
  rintro v s2 ⟨U, Q, u, rfl, hu, rfl, B⟩
  clear c28 c30 na nb
  have hinU : JP.In U a := ⟨by omega, by rw [B.len]; omega⟩
  have gU := ints_at hinU
  have haQ : a ∈ Q := (B.done).2 hw.conn.symm
  have hz : JP.g U a ≠ 0 := (B.mem a (by omega) (by omega)).2 haQ
  obtain ⟨k0, hk0⟩ := List.mem_iff_getElem?.1 haQ
  obtain ⟨p', hup, hw', _⟩ := B.ups hk0
  obtain rfl : p' = p := hw.uniq hcut hw'
  obtain ⟨M0, hM0, hM1⟩ : ∃ M0, N ≤ M0 ∧ u < M0 := ⟨max N (u + 1), by omega, by omega⟩
  have T0 : Top M0 (s.set u (.cells true 1 (ints U))) := (hT.mono hM0).set hM1
  have F0 : Fr (s.set u (.cells true 1 (ints U))) s [] := Fr.new (free_of hu) (Fr.refl _ _)
  have hp0 := hw'.first
  have hpl : 1 ≤ p'.length := by obtain ⟨t, ht⟩ := hw'.head; rw [ht]; simp

  (repeat' (first | (apply Ab.K.ev; exact ev_) | (apply Ab.K.aops; first | (apply Xg.s; constructor) | (apply Ab.S.guardU; (case hd => rfl); (case hb => (exact ev_; done))) | apply Ab.S.guardG) | (apply Ab.K.aop; first | (apply Ab.O.build1 M0; (case hx => exact ev_); (case hv => exact ⟨rfl, rfl⟩); (case hz => exact ⟨rfl, rfl⟩); (case hid => exact T0.free (Nat.le_refl _))) | (apply Og.s; constructor)) | (apply Ab.K.gk; first | (apply Xg.s; constructor) | (apply Ab.gY; case hw => assumption) | (apply Ab.gNT; case hw => assumption) | (apply Ab.gNF; case hw => assumption) | ((first | apply Ab.gD | apply Ab.gDN); all_goals (intro _ _; (first | contradiction | (exfalso; omega) | skip)))) | (apply Ab.K.awp; first | (apply Xg.s; constructor)) | (apply Ab.K.at_; exact at_) | (apply Ab.K.acall; first | assumption | fail) | (apply Ab.Rg.mk; omega) | (apply Ab.Lt.mk; first | decide | (simp; done) | (simp; omega) | fail) | (apply Ab.Get.mk; first | rfl | first | exact gU | (rw [Nat.mul_one]; exact gU)) | (apply Ab.Nm.mk; first | exact nrm_) | (apply Xg.s; constructor) | (apply Ab.asm; assumption) | rfl | infer_instance | decide))
  refine AWp.loop (fun kk tm s1 => ∃ (k q M : Nat) (x : Int), Ev tm (.tmp 1) (.int .i64 x) ∧ Ev tm (.tmp 2) (.int .i64 b) ∧ Ev tm (.tmp 8) (.slice (some ⟨u, 0, none⟩) 65 65) ∧ Ev tm (.tmp 9) (.slice (some ⟨q, 0, none⟩) (k + 1) (k + 1)) ∧ At s1 u (.cells true 1 (ints U)) ∧ At s1 q (.cells true 1 (ints (p'.take (k + 1)))) ∧ p'[k]? = some x ∧ Fr s1 s [] ∧ u ≠ q ∧ M0 ≤ q ∧ Top M s1 ∧ kk = p'.length - k) p'.length ?_ ?_
  · refine ⟨0, M0, M0 + 1, a, by exact ev_, by exact ev_, by exact ev_, by exact ev_, At.miss (by omega) At.hit, ?_, hp0, Fr.new (hT.free hM0) F0, by omega, Nat.le_refl _, T0.new, rfl⟩
    rw [ints_take hp0]; exact At.hit
  rintro kk tm s1 ⟨k, q, M, x, e1, e2, e8, e9, a8, a9, hx, F, huq, hq, T, hkk⟩
  have huM := T.lt a8
  have hqM := T.lt a9
  have hkl := (List.getElem?_eq_some_iff.1 hx).1
  have hcl : (ints (p'.take (k + 1))).length = k + 1 := by rw [ints_length, List.length_take]; omega
  rcases ups_next hup hx with ⟨rfl, hlast⟩ | ⟨hne, hnext⟩
  · rw [hlast, List.take_length] at a9
    rw [hlast] at e9
    (repeat' (first | (apply Ab.K.ev; exact ev_) | (apply Ab.K.aops; first | (apply Xg.s; constructor) | (apply Ab.S.guardU; (case hd => rfl); (case hb => (exact ev_; done))) | apply Ab.S.guardG) | (apply Ab.K.aop; first | (apply Og.s; constructor)) | (apply Ab.K.gk; first | (apply Xg.s; constructor) | (apply Ab.gY; case hw => assumption) | (apply Ab.gNT; case hw => assumption) | (apply Ab.gNF; case hw => assumption) | ((first | apply Ab.gD | apply Ab.gDN); all_goals (intro _ _; (first | contradiction | (exfalso; omega) | skip)))) | (apply Ab.K.awp; first | (apply Xg.s; constructor)) | (apply Ab.K.at_; exact at_) | (apply Ab.K.acall; first | assumption | fail) | (apply Ab.Rg.mk; omega) | (apply Ab.Lt.mk; first | decide | (simp; done) | (simp; omega) | fail) | (apply Ab.Get.mk; first | rfl | first | exact gU | (rw [Nat.mul_one]; exact gU)) | (apply Ab.Nm.mk; first | exact nrm_) | (apply Xg.s; constructor) | (apply Ab.asm; assumption) | rfl | infer_instance | decide))
    apply RetQ.retR (renL (dn [(o, q, .cells true 1 (ints p'))]))
    (case he => exact evr_)
    (case hg => rfl)
    · simp [resV, mpR, mpB, mp1, mpA, renL_hit]
    · exact KeepsR.new1 ho (hT.none (by omega)) F a9 (ints_pl _) (by simp [nmR, nmB, nm1, nmA])
    · simp
  · have hxn : 1 ≤ x ∧ x ≤ 64 := hnodes x (List.mem_of_getElem? hx)
    have gx := ints_at (l := U) (i := x) ⟨by omega, by rw [B.len]; omega⟩


    (repeat' (first | (apply Ab.K.ev; exact ev_) | (apply Ab.K.aops; first | (apply Xg.s; constructor) | (apply Ab.S.guardU; (case hd => rfl); (case hb => (exact ev_; done))) | apply Ab.S.guardG) | (apply Ab.K.aop; first | (apply Ab.O.build1 (M); (case hx => exact ev_); (case hv => exact ⟨rfl, rfl⟩); (case hz => exact ⟨rfl, rfl⟩); (case hid => exact free_)) | (apply Og.s; constructor)) | (apply Ab.K.gk; first | (apply Xg.s; constructor) | (apply Ab.gY; case hw => assumption) | (apply Ab.gNT; case hw => assumption) | (apply Ab.gNF; case hw => assumption) | ((first | apply Ab.gD | apply Ab.gDN); all_goals (intro _ _; (first | contradiction | (exfalso; omega) | skip)))) | (apply Ab.K.awp; first | (apply Xg.s; constructor)) | (apply Ab.K.at_; exact at_) | (apply Ab.K.acall; first | assumption | fail) | (apply Ab.Rg.mk; omega) | (apply Ab.Lt.mk; first | decide | (simp; done) | (simp; omega) | fail) | (apply Ab.Get.mk; first | rfl | first | exact gx | (rw [Nat.mul_one]; exact gx)) | (apply Ab.Nm.mk; first | exact nrm_) | (apply Xg.s; constructor) | (apply Ab.asm; assumption) | rfl | infer_instance | decide))
    (apply Ab.O.appendL (M + 1); (case hx => exact ev_); (case hL => first | exact LAt.nil | exact LAt.blk (by exact at_) (by first | rfl | exact hcl | (rw [Nat.mul_one]; exact hcl) | simp [ints_length])); (case hy => exact ev_); (case hs => first | exact Src.sl (by exact at_) (by decide) (by decide) rfl | exact srcAll (by exact at_) (by first | rfl | exact hcl | (rw [Nat.mul_one]; exact hcl) | simp [ints_length])); (case hk => rfl); (case hm => decide); (case hl => first | rfl | first | rfl | exact hcl | (rw [Nat.mul_one]; exact hcl) | simp [ints_length]); (case hz => decide); (case hb => omega); (case hfree => exact free_))
    intro s3 g
    have out : ∀ j, j < M → q ≠ j → s3 j = s1 j := fun j hj hne => by rw [g.off _ (fun e => hne (Option.some.inj e)) (by omega), AHeap.set_other _ _ (by omega)]
    have T2 := g.topN T.new (fun q' e => by have := Option.some.inj e; omega)
    have F2 := g.fr (Fr.new (free_of (none_of T F _ (Nat.le_refl _))) F) (fun q' e => .inl (hT.none (by have := Option.some.inj e; omega)))
    have a8' : At s3 u (.cells true 1 (ints U)) := At.var (by rw [out _ huM (fun e => huq e.symm)]; exact a8.eq)
    have gh := g.hit
    rw [← ints_take hnext] at gh
    (repeat' (first | (apply Ab.K.ev; exact ev_) | (apply Ab.K.aops; first | (apply Xg.s; constructor) | (apply Ab.S.guardU; (case hd => rfl); (case hb => (exact ev_; done))) | apply Ab.S.guardG) | (apply Ab.K.aop; first | (apply Og.s; constructor)) | (apply Ab.K.gk; first | (apply Xg.s; constructor) | (apply Ab.gY; case hw => assumption) | (apply Ab.gNT; case hw => assumption) | (apply Ab.gNF; case hw => assumption) | ((first | apply Ab.gD | apply Ab.gDN); all_goals (intro _ _; (first | contradiction | (exfalso; omega) | skip)))) | (apply Ab.K.awp; first | (apply Xg.s; constructor)) | (apply Ab.K.at_; exact at_) | (apply Ab.K.acall; first | assumption | fail) | (apply Ab.Rg.mk; omega) | (apply Ab.Lt.mk; first | decide | (simp; done) | (simp; omega) | fail) | (apply Ab.Get.mk; first | rfl | first | exact gx | (rw [Nat.mul_one]; exact gx)) | (apply Ab.Nm.mk; first | exact nrm_) | (apply Xg.s; constructor) | (apply Ab.asm; assumption) | rfl | infer_instance | decide))
    exact X.roundN (p'.length - (k + 1)) (by omega) ⟨k + 1, M + 1, M + 2, JP.g U x, by exact ev_, by exact ev_, by exact ev_, by exact ev_, a8', gh, hnext, F2, by omega, by omega, T2, rfl⟩
end Go.Proofs.Ytdbnpghckgmaoaa
