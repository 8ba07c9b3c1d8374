/- texts of this claim, one behind the other: VD. -/
import Derived.Test.YtdbnpghckgmaoaaM14
import Derived.IntWalk

/- views: where a link is told, by halves. -/
namespace Go.Proofs.Ytdbnpghckgmaoaa
set_option linter.unusedVariables false
set_option linter.unusedSimpArgs false
set_option linter.unusedSectionVars false
open Go.RowKit Ab TP VP
instance : HasTD Try.prog 89 ⟨.int .u64, 1, 8, .int .u64 0⟩ := ⟨by kernel_rfl⟩

attribute [local irreducible] AOps AOpsD AOp AWp put nargs AHeap.set At Free ACall ACallE thenQ blockQ roundQ RetQ RetE Src

theorem half_shr (a : Int) (h : 0 ≤ a) : aint .shr .u64 a .u64 1 = some (.int .u64 (a / 2)) := by
  have : (2 : Int) ^ (min (1 : Int).toNat IntKind.u64.bits) = 2 := by decide
  simp only [aint, this]
  rw [if_pos (by decide), Int.fdiv_eq_ediv_of_nonneg _ (by decide)]
theorem ahead_no {a b t : Kn} (h : VP.ahead a b) (ht : ¬ VP.ahead a t) : ¬ VP.ahead b t := fun k => ht (ahead_trans h k)
set_option maxHeartbeats 4000000 in
theorem searchV {s : AHeap} {B : Option Addr} {m d : Nat} {ol : Option Nat} {L : List Kn} {t : Kn} (hL : KA s (.slice B m d) ol L) (hP : L.Pairwise VP.ahead) (hm : m ≤ 100000) :
    ACallE Try.prog 55 [.slice B m d, .agg (kc t).toArray, .func (.func 56) #[] #[]] s (fun v s' => s' = s ∧ ∃ (i : Nat) (f : Bool), v = .tuple #[.int .i64 i, .bool f] ∧ ((f = true ∧ ∃ r, L[i]? = some r ∧ r.node = t.node ∧ r.peer = t.peer) ∨ (f = false ∧ ∀ r ∈ L, ¬ (r.node = t.node ∧ r.peer = t.peer)))) := by
  have hml : m = L.length := by obtain ⟨_, _, e⟩ := hL.isl; injection e
  have hpi := List.pairwise_iff_getElem.1 hP
  refine ACallE.make Try.func55 rfl (by kernel_rfl) (by decide) rfl (fun N hN0 => ?_)
  have hT : Top N s := hN0
  (repeat' (first | (apply Ab.K.ev; exact ev_) | (apply Ab.K.aops; first | (apply Xg.s; constructor) | (apply Ab.S.guardU; (case hd => rfl); (case hb => (exact ev_; done))) | apply Ab.S.guardG) | (apply Ab.K.aop; first | (apply Ab.O.boxA (l := kc t) N; (case hx => exact ev_); (case hid => exact hT.free (Nat.le_refl _))) | (apply Og.s; constructor)) | (apply Ab.K.gk; first | (apply Xg.s; constructor) | (apply Ab.gY; case hw => assumption) | (apply Ab.gNT; case hw => assumption) | (apply Ab.gNF; case hw => assumption) | ((first | apply Ab.gD | apply Ab.gDN); all_goals (intro _ _; (first | contradiction | (exfalso; omega) | skip)))) | (apply Ab.K.awp; first | (apply Xg.s; constructor)) | (apply Ab.K.at_; exact at_) | (apply Ab.K.acall; first | assumption | fail) | (apply Ab.Rg.mk; omega) | (apply Ab.Lt.mk; first | decide | (simp; done) | (simp; omega) | fail) | (apply Ab.Get.mk; first | rfl | fail) | (apply Ab.Nm.mk; first | exact nrm_) | (apply Xg.s; constructor) | (apply Ab.asm; assumption) | rfl | infer_instance | decide))
  refine AWp.loop (fun kk tm s1 => ∃ (i j : Nat), Ev tm (.tmp 0) (.slice B m d) ∧ Ev tm (.tmp 2) (.func (.func 56) #[] #[]) ∧ Ev tm (.tmp 4) (.pointer (some ⟨N, 0, none⟩)) ∧ Ev tm (.tmp 8) (.int .i64 m) ∧ Ev tm (.tmp 9) (.int .i64 i) ∧ Ev tm (.tmp 10) (.int .i64 j) ∧ At s1 N (.cells true 1 (kc t)) ∧ Fr s1 s [] ∧ i ≤ j ∧ j ≤ m ∧ (∀ k r, k < i → L[k]? = some r → VP.ahead r t) ∧ (∀ k r, j ≤ k → L[k]? = some r → ¬ VP.ahead r t) ∧ kk = j - i) m ?_ ?_
  · exact ⟨0, m, by exact ev_, by exact ev_, by exact ev_, by exact ev_, by exact ev_, by exact ev_, by exact at_, by exact fr_, by omega, Nat.le_refl _, fun k r h => by omega, fun k r h hr => by have := (List.getElem?_eq_some_iff.1 hr).1; omega, rfl⟩
  rintro kk tm s1 ⟨i, j, e0, e2, e4, e8, e9, e10, a4, F, hij, hj, hlo, hhi, hkk⟩
  by_cases hlt : i < j
  · obtain ⟨k, hk⟩ : ∃ k, k = (i + j) / 2 := ⟨_, rfl⟩
    have hkb : i ≤ k ∧ k < j := by omega
    have hsh := half_shr ((i : Int) + j) (by omega)
    have hkz : ((i : Int) + j) / 2 = (k : Int) := by omega
    rw [hkz] at hsh
    have w1 : IntKind.u64.wrap ((i : Int) + j) = (i : Int) + j := IntWalk.u64_in _ (by omega)
    have w2 : IntKind.i64.wrap (k : Int) = (k : Int) := IntWalk.i64_in _ (by omega)
    obtain ⟨x, hx⟩ : ∃ x, L[k]? = some x := ⟨_, List.getElem?_eq_getElem (by omega)⟩
    obtain ⟨q, rw1, cs, rfl, _, _, hq, hcs, hE, _⟩ := (hL.fr F).elt hx
    have c56 : ∀ s : AHeap, ACall Try.prog 56 [.agg (kc x).toArray, .agg (kc t).toArray] s (.int .i64 (ord2 x t)) s := fun s => orderV
    have hon := ord2_neg (a := x) (b := t)



    by_cases hah : VP.ahead x t
    · have hneg : ord2 x t < 0 := hon.2 hah
      (repeat' (first | (apply Ab.K.ev; exact ev_) | (apply Ab.K.aops; first | (apply Xg.s; constructor) | (apply Ab.S.guardU; (case hd => rfl); (case hb => (exact ev_; done))) | apply Ab.S.guardG) | (apply Ab.K.aop; first | (first | (apply Ab.O.convW (hw := w1); (case hx => exact ev_)) | (apply Ab.O.convW (hw := w2); (case hx => exact ev_)) | (apply Ab.O.int; (case hx => exact ev_); (case hy => exact ev_); (case hv => exact hsh)) | (apply Ab.O.call; (case hf => exact ev_); (case ha => exact evs_); (case hc => exact c56 _))) | (apply Og.s; constructor)) | (apply Ab.K.gk; first | (apply Xg.s; constructor) | (apply Ab.gY; case hw => assumption) | (apply Ab.gNT; case hw => assumption) | (apply Ab.gNF; case hw => assumption) | ((first | apply Ab.gD | apply Ab.gDN); all_goals (intro _ _; (first | contradiction | (exfalso; omega) | skip)))) | (apply Ab.K.aopsD; first | (apply Ab.D.q0t; (case hw => rfl); (case hot => rfl)) | (apply Ab.D.w1t; (case hw => rfl); (case hot => rfl)) | (apply Ab.D.q0; (case hw => rfl); intro _ _) | (apply Ab.D.w1n; (case hw => rfl); intro _ _) | (apply Ab.D.w2n; (case hw => rfl); intro _ _) | (apply Xg.s; constructor) | (apply Ab.D.guardU; (case hd => rfl); (case hb => (exact ev_; done))) | apply Ab.D.guardG) | exact ⟨rfl, rfl⟩ | (apply Ab.K.awp; first | (apply AWp.draw (id := 5) [[], [], [], [1, 2], [1, 2, 3], [], [0, 1, 2, 3, 4, 5], [0, 1, 2, 3, 4, 5, 6]] [] (by kernel_rfl) (by kernel_rfl) (by simp [apartW, unordB, cC] <;> omega)) | (apply Xg.s; constructor)) | (apply Ab.K.at_; exact at_) | (apply Ab.K.acall; first | assumption | fail) | (apply Ab.Rg.mk; omega) | (apply Ab.Lt.mk; first | decide | (simp; done) | (simp; omega) | first | omega | (show (0 + 5 : Nat) < 5 + 1; decide)) | (apply Ab.Get.mk; first | rfl | fail) | (apply Ab.Nm.mk; first | first | exact Eq.trans (congrArg (fun z => List.take _ (List.drop (z * 5) cs)) (Int.toNat_natCast k)) hE | exact (show ((kc t).drop 0).take 5 = kc t from rfl) | exact nrm_) | (apply Xg.s; constructor) | (apply Ab.asm; assumption) | rfl | infer_instance | decide))
      refine X.roundN (j - (k + 1)) (by omega) ⟨k + 1, j, by exact ev_, by exact ev_, by exact ev_, by exact ev_, by exact ev_, by exact ev_, a4, F, by omega, hj, fun k' r h1 h2 => ?_, hhi, rfl⟩
      by_cases hkk' : k' = k
      · subst hkk'; rw [hx] at h2; obtain rfl := Option.some.inj h2; exact hah
      · obtain ⟨a1, a2⟩ := List.getElem?_eq_some_iff.1 hx
        obtain ⟨b1, b2⟩ := List.getElem?_eq_some_iff.1 h2
        have := hpi k' k b1 a1 (by omega)
        rw [a2, b2] at this
        exact ahead_trans this hah
    · have hneg : ¬ ord2 x t < 0 := fun h => hah (hon.1 h)
      (repeat' (first | (apply Ab.K.ev; exact ev_) | (apply Ab.K.aops; first | (apply Xg.s; constructor) | (apply Ab.S.guardU; (case hd => rfl); (case hb => (exact ev_; done))) | apply Ab.S.guardG) | (apply Ab.K.aop; first | (first | (apply Ab.O.convW (hw := w1); (case hx => exact ev_)) | (apply Ab.O.convW (hw := w2); (case hx => exact ev_)) | (apply Ab.O.int; (case hx => exact ev_); (case hy => exact ev_); (case hv => exact hsh)) | (apply Ab.O.call; (case hf => exact ev_); (case ha => exact evs_); (case hc => exact c56 _))) | (apply Og.s; constructor)) | (apply Ab.K.gk; first | (apply Xg.s; constructor) | (apply Ab.gY; case hw => assumption) | (apply Ab.gNT; case hw => assumption) | (apply Ab.gNF; case hw => assumption) | ((first | apply Ab.gD | apply Ab.gDN); all_goals (intro _ _; (first | contradiction | (exfalso; omega) | skip)))) | (apply Ab.K.aopsD; first | (apply Ab.D.q0t; (case hw => rfl); (case hot => rfl)) | (apply Ab.D.w1t; (case hw => rfl); (case hot => rfl)) | (apply Ab.D.q0; (case hw => rfl); intro _ _) | (apply Ab.D.w1n; (case hw => rfl); intro _ _) | (apply Ab.D.w2n; (case hw => rfl); intro _ _) | (apply Xg.s; constructor) | (apply Ab.D.guardU; (case hd => rfl); (case hb => (exact ev_; done))) | apply Ab.D.guardG) | exact ⟨rfl, rfl⟩ | (apply Ab.K.awp; first | (apply AWp.draw (id := 5) [[], [], [], [1, 2], [1, 2, 3], [], [0, 1, 2, 3, 4, 5], [0, 1, 2, 3, 4, 5, 6]] [] (by kernel_rfl) (by kernel_rfl) (by simp [apartW, unordB, cC] <;> omega)) | (apply Xg.s; constructor)) | (apply Ab.K.at_; exact at_) | (apply Ab.K.acall; first | assumption | fail) | (apply Ab.Rg.mk; omega) | (apply Ab.Lt.mk; first | decide | (simp; done) | (simp; omega) | first | omega | (show (0 + 5 : Nat) < 5 + 1; decide)) | (apply Ab.Get.mk; first | rfl | fail) | (apply Ab.Nm.mk; first | first | exact Eq.trans (congrArg (fun z => List.take _ (List.drop (z * 5) cs)) (Int.toNat_natCast k)) hE | exact (show ((kc t).drop 0).take 5 = kc t from rfl) | exact nrm_) | (apply Xg.s; constructor) | (apply Ab.asm; assumption) | rfl | infer_instance | decide))
      refine X.roundN (k - i) (by omega) ⟨i, k, by exact ev_, by exact ev_, by exact ev_, by exact ev_, by exact ev_, by exact ev_, a4, F, by omega, by omega, hlo, fun k' r h1 h2 => ?_, rfl⟩
      by_cases hkk' : k' = k
      · subst hkk'; rw [hx] at h2; obtain rfl := Option.some.inj h2; exact hah
      · obtain ⟨a1, a2⟩ := List.getElem?_eq_some_iff.1 hx
        obtain ⟨b1, b2⟩ := List.getElem?_eq_some_iff.1 h2
        have := hpi k k' a1 b1 (by omega)
        rw [a2, b2] at this
        exact ahead_no this hah

  · obtain rfl : i = j := by omega
    have hall : (∃ r, L[i]? = some r ∧ r.node = t.node ∧ r.peer = t.peer) ∨ ∀ r ∈ L, ¬ (r.node = t.node ∧ r.peer = t.peer) := by
      by_cases he : ∃ r, L[i]? = some r ∧ r.node = t.node ∧ r.peer = t.peer
      · exact .inl he
      · refine .inr fun r hr hkey => ?_
        obtain ⟨k, hk⟩ := List.mem_iff_getElem?.1 hr
        rcases Nat.lt_trichotomy k i with h1 | rfl | h1
        · have := hlo k r h1 hk; unfold VP.ahead at this; omega
        · exact he ⟨r, hk, hkey⟩
        · obtain ⟨a1, a2⟩ := List.getElem?_eq_some_iff.1 hk
          have hx0 : L[i]? = some (L[i]'(by omega)) := List.getElem?_eq_getElem (by omega)
          have h2 := hhi i _ (Nat.le_refl _) hx0
          have h3 := hpi i k (by omega) a1 h1
          rw [a2] at h3
          apply h2; unfold VP.ahead at h3 ⊢; omega
    by_cases him : i < m
    · obtain ⟨x, hx⟩ : ∃ x, L[i]? = some x := ⟨_, List.getElem?_eq_getElem (by omega)⟩
      obtain ⟨q, rw1, cs, rfl, _, _, hq, hcs, hE, _⟩ := (hL.fr F).elt hx
      have c56 : ∀ s : AHeap, ACall Try.prog 56 [.agg (kc x).toArray, .agg (kc t).toArray] s (.int .i64 (ord2 x t)) s := fun s => orderV
      have hz := ord2_zero (a := x) (b := t)

      by_cases hkey : x.node = t.node ∧ x.peer = t.peer
      · have h0 : ord2 x t = 0 := hz.2 hkey
        rw [h0] at c56
        (repeat' (first | (apply Ab.K.ev; exact ev_) | (apply Ab.K.aops; first | (apply Xg.s; constructor) | (apply Ab.S.guardU; (case hd => rfl); (case hb => (exact ev_; done))) | apply Ab.S.guardG) | (apply Ab.K.aop; first | (apply Ab.O.call; (case hf => exact ev_); (case ha => exact evs_); (case hc => exact c56 _)) | (apply Og.s; constructor)) | (apply Ab.K.gk; first | (apply Xg.s; constructor) | (apply Ab.gY; case hw => assumption) | (apply Ab.gNT; case hw => assumption) | (apply Ab.gNF; case hw => assumption) | ((first | apply Ab.gD | apply Ab.gDN); all_goals (intro _ _; (first | contradiction | (exfalso; omega) | skip)))) | (apply Ab.K.aopsD; first | (apply Ab.D.q0t; (case hw => rfl); (case hot => rfl)) | (apply Ab.D.w1t; (case hw => rfl); (case hot => rfl)) | (apply Ab.D.q0; (case hw => rfl); intro _ _) | (apply Ab.D.w1n; (case hw => rfl); intro _ _) | (apply Ab.D.w2n; (case hw => rfl); intro _ _) | (apply Xg.s; constructor) | (apply Ab.D.guardU; (case hd => rfl); (case hb => (exact ev_; done))) | apply Ab.D.guardG) | exact ⟨rfl, rfl⟩ | (apply Ab.K.awp; first | (apply AWp.draw (id := 8) [[], [], [], [1, 2], [1, 2, 3], [1, 2, 3, 4], [1, 2, 3, 4], [1, 2, 3, 4], [1, 2, 3, 4, 6, 7], [1, 2, 3, 4, 6, 7, 8], [1, 2, 3, 4], [1, 2, 3, 4, 5, 6, 7, 8, 9, 10], [1, 2, 3, 4, 5, 6, 7, 8, 9, 10, 11], [1, 2, 3, 4, 5, 6, 7, 8, 9, 10, 11, 12], [0, 1, 2, 3, 4, 5, 6, 7, 8, 9, 10, 11], [0, 1, 2, 3, 4, 5, 6, 7, 8, 9, 10, 11, 12, 13, 14]] [] (by kernel_rfl) (by kernel_rfl) (by simp [apartW, unordB, cC] <;> omega)) | (apply Xg.s; constructor)) | (apply Ab.K.at_; exact at_) | (apply Ab.K.acall; first | assumption | fail) | (apply Ab.Rg.mk; omega) | (apply Ab.Lt.mk; first | decide | (simp; done) | (simp; omega) | first | omega | (show (0 + 5 : Nat) < 5 + 1; decide)) | (apply Ab.Get.mk; first | rfl | fail) | (apply Ab.Nm.mk; first | first | exact Eq.trans (congrArg (fun z => List.take _ (List.drop (z * 5) cs)) (Int.toNat_natCast i)) hE | exact (show ((kc t).drop 0).take 5 = kc t from rfl) | exact nrm_) | (apply Xg.s; constructor) | (apply Ab.asm; assumption) | rfl | infer_instance | decide))
        all_goals ((first | apply RetE.ret | apply RetE.normal); (case he => exact evr_); (case hg => rfl))
        · exact ⟨rfl, i, true, by simp [resV], .inl ⟨rfl, x, hx, hkey⟩⟩
        · exact Keeps.fr F (plR.nm rfl)
      · have h0 : ¬ ord2 x t = 0 := fun h => hkey (hz.1 h)
        have hno := hall.resolve_left fun ⟨r, h1, h2⟩ => by rw [hx] at h1; obtain rfl := Option.some.inj h1; exact hkey h2
        (repeat' (first | (apply Ab.K.ev; exact ev_) | (apply Ab.K.aops; first | (apply Xg.s; constructor) | (apply Ab.S.guardU; (case hd => rfl); (case hb => (exact ev_; done))) | apply Ab.S.guardG) | (apply Ab.K.aop; first | (apply Ab.O.call; (case hf => exact ev_); (case ha => exact evs_); (case hc => exact c56 _)) | (apply Og.s; constructor)) | (apply Ab.K.gk; first | (apply Xg.s; constructor) | (apply Ab.gY; case hw => assumption) | (apply Ab.gNT; case hw => assumption) | (apply Ab.gNF; case hw => assumption) | ((first | apply Ab.gD | apply Ab.gDN); all_goals (intro _ _; (first | contradiction | (exfalso; omega) | skip)))) | (apply Ab.K.aopsD; first | (apply Ab.D.q0t; (case hw => rfl); (case hot => rfl)) | (apply Ab.D.w1t; (case hw => rfl); (case hot => rfl)) | (apply Ab.D.q0; (case hw => rfl); intro _ _) | (apply Ab.D.w1n; (case hw => rfl); intro _ _) | (apply Ab.D.w2n; (case hw => rfl); intro _ _) | (apply Xg.s; constructor) | (apply Ab.D.guardU; (case hd => rfl); (case hb => (exact ev_; done))) | apply Ab.D.guardG) | exact ⟨rfl, rfl⟩ | (apply Ab.K.awp; first | (apply AWp.draw (id := 8) [[], [], [], [1, 2], [1, 2, 3], [1, 2, 3, 4], [1, 2, 3, 4], [1, 2, 3, 4], [1, 2, 3, 4, 6, 7], [1, 2, 3, 4, 6, 7, 8], [1, 2, 3, 4], [1, 2, 3, 4, 5, 6, 7, 8, 9, 10], [1, 2, 3, 4, 5, 6, 7, 8, 9, 10, 11], [1, 2, 3, 4, 5, 6, 7, 8, 9, 10, 11, 12], [0, 1, 2, 3, 4, 5, 6, 7, 8, 9, 10, 11], [0, 1, 2, 3, 4, 5, 6, 7, 8, 9, 10, 11, 12, 13, 14]] [] (by kernel_rfl) (by kernel_rfl) (by simp [apartW, unordB, cC] <;> omega)) | (apply Xg.s; constructor)) | (apply Ab.K.at_; exact at_) | (apply Ab.K.acall; first | assumption | fail) | (apply Ab.Rg.mk; omega) | (apply Ab.Lt.mk; first | decide | (simp; done) | (simp; omega) | first | omega | (show (0 + 5 : Nat) < 5 + 1; decide)) | (apply Ab.Get.mk; first | rfl | fail) | (apply Ab.Nm.mk; first | first | exact Eq.trans (congrArg (fun z => List.take _ (List.drop (z * 5) cs)) (Int.toNat_natCast i)) hE | exact (show ((kc t).drop 0).take 5 = kc t from rfl) | exact nrm_) | (apply Xg.s; constructor) | (apply Ab.asm; assumption) | rfl | infer_instance | decide))
        all_goals ((first | apply RetE.ret | apply RetE.normal); (case he => exact evr_); (case hg => rfl))
        · exact ⟨rfl, i, false, by simp [resV, h0], .inr ⟨rfl, hno⟩⟩
        · exact Keeps.fr F (plR.nm rfl)
    · have hno := hall.resolve_left fun ⟨r, h1, h2⟩ => by have := (List.getElem?_eq_some_iff.1 h1).1; omega
      (repeat' (first | (apply Ab.K.ev; exact ev_) | (apply Ab.K.aops; first | (apply Xg.s; constructor) | (apply Ab.S.guardU; (case hd => rfl); (case hb => (exact ev_; done))) | apply Ab.S.guardG) | (apply Ab.K.aop; first | (apply Og.s; constructor)) | (apply Ab.K.gk; first | (apply Xg.s; constructor) | (apply Ab.gY; case hw => assumption) | (apply Ab.gNT; case hw => assumption) | (apply Ab.gNF; case hw => assumption) | ((first | apply Ab.gD | apply Ab.gDN); all_goals (intro _ _; (first | contradiction | (exfalso; omega) | skip)))) | (apply Ab.K.aopsD; first | (apply Ab.D.q0t; (case hw => rfl); (case hot => rfl)) | (apply Ab.D.w1t; (case hw => rfl); (case hot => rfl)) | (apply Ab.D.q0; (case hw => rfl); intro _ _) | (apply Ab.D.w1n; (case hw => rfl); intro _ _) | (apply Ab.D.w2n; (case hw => rfl); intro _ _) | (apply Xg.s; constructor) | (apply Ab.D.guardU; (case hd => rfl); (case hb => (exact ev_; done))) | apply Ab.D.guardG) | exact ⟨rfl, rfl⟩ | (apply Ab.K.awp; first | (apply AWp.draw (id := 8) [[], [], [], [1, 2], [1, 2, 3], [1, 2, 3, 4], [1, 2, 3, 4], [1, 2, 3, 4], [1, 2, 3, 4, 6, 7], [1, 2, 3, 4, 6, 7, 8], [1, 2, 3, 4], [1, 2, 3, 4, 5, 6, 7, 8, 9, 10], [1, 2, 3, 4, 5, 6, 7, 8, 9, 10, 11], [1, 2, 3, 4, 5, 6, 7, 8, 9, 10, 11, 12], [0, 1, 2, 3, 4, 5, 6, 7, 8, 9, 10, 11], [0, 1, 2, 3, 4, 5, 6, 7, 8, 9, 10, 11, 12, 13, 14]] [] (by kernel_rfl) (by kernel_rfl) (by simp [apartW, unordB, cC] <;> omega)) | (apply Xg.s; constructor)) | (apply Ab.K.at_; exact at_) | (apply Ab.K.acall; first | assumption | fail) | (apply Ab.Rg.mk; omega) | (apply Ab.Lt.mk; first | decide | (simp; done) | (simp; omega) | first | omega | (show (0 + 5 : Nat) < 5 + 1; decide)) | (apply Ab.Get.mk; first | rfl | fail) | (apply Ab.Nm.mk; first | first | exact Eq.trans (congrArg (fun z => List.take _ (List.drop (z * 5) cs)) (Int.toNat_natCast i)) hE | exact (show ((kc t).drop 0).take 5 = kc t from rfl) | exact nrm_) | (apply Xg.s; constructor) | (apply Ab.asm; assumption) | rfl | infer_instance | decide))
      all_goals ((first | apply RetE.ret | apply RetE.normal); (case he => exact evr_); (case hg => rfl))
      · exact ⟨rfl, i, false, by simp [resV], .inr ⟨rfl, hno⟩⟩
      · exact Keeps.fr F (plR.nm rfl)
end Go.Proofs.Ytdbnpghckgmaoaa
