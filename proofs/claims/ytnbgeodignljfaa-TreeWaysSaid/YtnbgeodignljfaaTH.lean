/- trees: the document's heaviest edge, and all behind a node. -/
import Derived.Test.YtnbgeodignljfaaTG
namespace Go.Proofs.Ytnbgeodignljfaa
set_option linter.unusedVariables false
set_option linter.unusedSimpArgs false
set_option linter.unusedSectionVars false
open Go.RowKit Ab TP
attribute [local irreducible] AOps AOpsD AOp AWp put nargs AHeap.set At Free ACall thenQ blockQ roundQ RetQ Src bsn
theorem heaviest24 {s : AHeap} {A : Option Addr} {n c : Nat} {on : Option Nat} {l : List E} {g : E} (h : EA s (.slice A n c) on l) (hg : Top1 l g) (hn : n ≤ 512) :
    ACall Try.prog 24 [.slice A n c] s (.agg (ec g).toArray) s := by
  have hnl : n = l.length := by obtain ⟨_, _, e⟩ := h.isl; injection e
  have hpos : 0 < l.length := List.length_pos_of_mem hg.1
  refine ACall.make Try.func24 rfl (by kernel_rfl) (by decide) rfl (fun N hN => ?_)
  have hT : Top N s := hN
  obtain ⟨f0, hf0⟩ : ∃ f0, l[0]? = some f0 := ⟨_, List.getElem?_eq_getElem hpos⟩
  have h0 := h
  obtain ⟨q, rw1, cs, rfl, hon, _, hq, hcs, hE0, _⟩ := h0.elt hf0
  have hqN := h.lt hT q hon
  have z3 : ([.int .i64 0, .int .i64 0, .int .i64 0] : List Value) = ec ⟨0, 0, 0⟩ := rfl


  (repeat' (first | (apply Ab.K.ev; exact ev_) | (apply Ab.K.aops; first | (apply Xg.s; constructor) | (apply Ab.S.guardU; (case hd => rfl); (case hb => (exact ev_; done))) | apply Ab.S.guardG) | (apply Ab.K.aop; first | (first | (apply Ab.O.allocA (l := ec ⟨0, 0, 0⟩) (N + 0); (case hid => exact frees_); (case hp => rfl)) | (apply Ab.O.allocA (l := ec ⟨0, 0, 0⟩) (N + 1); (case hid => exact frees_); (case hp => rfl)) | (apply Ab.O.storeAll; (case hz => rfl); (case hx => exact ev_); (case hy => exact ev_); (case hs => exact at_); (case hl => rfl); (case hc => rfl))) | (apply Og.s; constructor)) | (apply Ab.K.gk; first | (apply Xg.s; constructor) | (apply Ab.gY; case hw => assumption) | (apply Ab.gNT; case hw => assumption) | (apply Ab.gNF; case hw => assumption) | ((first | apply Ab.gD | apply Ab.gDN); all_goals (intro _ _; (first | contradiction | (exfalso; omega) | skip)))) | (apply Ab.K.awp; first | (apply Xg.s; constructor)) | (apply Ab.K.at_; exact at_) | (apply Ab.K.acall; first | assumption | fail) | (apply Ab.Rg.mk; omega) | (apply Ab.Lt.mk; first | decide | (simp; done) | (simp; omega) | first | omega | (show (0 + 3 : Nat) < 3 + 1; decide)) | (apply Ab.Get.mk; first | rfl | fail) | (apply Ab.Nm.mk; first | first | exact hE0 | exact Eq.trans (congrArg (fun z => List.take _ (List.drop (z * 3) cs)) (Int.toNat_natCast i)) hE | exact (show ((ec e).drop 0).take 3 = ec e from rfl) | exact nrm_) | (apply Xg.s; constructor) | (apply Ab.asm; assumption) | rfl | infer_instance | decide))
  refine AWp.loop (fun kk tm s1 => ∃ (i : Nat) (e : E), Ev tm (.tmp 0) (.slice (some ⟨q, 0, none⟩) n c) ∧ Ev tm (.tmp 2) (.pointer (some ⟨N + 0, 0, none⟩)) ∧ Ev tm (.tmp 3) (.pointer (some ⟨N + 1, 0, none⟩)) ∧ Ev tm (.tmp 4) (.int .i64 i) ∧ At s1 (N + 0) (.cells true 1 (ec ⟨0, 0, 0⟩)) ∧ At s1 (N + 1) (.cells true 1 (ec e)) ∧ Fr s1 s [] ∧ ((i = 0 ∧ e = f0) ∨ Top1 (l.take i) e) ∧ i ≤ n ∧ kk = n - i) n ?_ ?_
  · exact ⟨0, f0, by exact ev_, by exact ev_, by exact ev_, by exact ev_, by exact at_, by exact at_, by exact fr_, .inl ⟨rfl, rfl⟩, by omega, rfl⟩
  clear hE0
  rintro kk tm s1 ⟨i, e, e0, e2, e3, e4, a2, a3, F, hi1, hi, hkk⟩
  by_cases hin : i < n
  · have hi' : l[i]? = some (l[i]'(by omega)) := List.getElem?_eq_getElem (by omega)
    obtain ⟨f, hff⟩ : ∃ f, f = l[i]'(by omega) := ⟨_, rfl⟩
    rw [← hff] at hi'
    have htk : l.take (i + 1) = l.take i ++ [f] := by rw [List.take_add_one, hi']; rfl
    obtain ⟨q2, rw2, cs, hqq, _, _, hq, _, hE, _⟩ := (h.fr F).elt hi'
    obtain rfl : q = q2 := by have := Option.some.inj hqq; injection this
    have c42 : ∀ s : AHeap, ACall Try.prog 42 [.agg (ec e).toArray, .agg (ec f).toArray] s (.bool (decide (less e f))) s := fun s => less42

    by_cases hless : less e f
    · rw [decide_eq_true hless] at c42
      have hnew : Top1 (l.take (i + 1)) f := by
        rcases hi1 with ⟨rfl, rfl⟩ | h1
        · rw [hi'] at hf0; obtain rfl := Option.some.inj hf0; exact absurd hless less_irrefl
        · rw [htk]; exact h1.up hless
      (repeat' (first | (apply Ab.K.ev; exact ev_) | (apply Ab.K.aops; first | (apply Xg.s; constructor) | (apply Ab.S.guardU; (case hd => rfl); (case hb => (exact ev_; done))) | apply Ab.S.guardG) | (apply Ab.K.aop; first | (first | (apply Ab.O.allocA (l := ec ⟨0, 0, 0⟩) (N + 0); (case hid => exact frees_); (case hp => rfl)) | (apply Ab.O.allocA (l := ec ⟨0, 0, 0⟩) (N + 1); (case hid => exact frees_); (case hp => rfl)) | (apply Ab.O.storeAll; (case hz => rfl); (case hx => exact ev_); (case hy => exact ev_); (case hs => exact at_); (case hl => rfl); (case hc => rfl))) | (apply Og.s; constructor)) | (apply Ab.K.gk; first | (apply Xg.s; constructor) | (apply Ab.gY; case hw => assumption) | (apply Ab.gNT; case hw => assumption) | (apply Ab.gNF; case hw => assumption) | ((first | apply Ab.gD | apply Ab.gDN); all_goals (intro _ _; (first | contradiction | (exfalso; omega) | skip)))) | (apply Ab.K.aopsD; first | (apply Ab.D.q0t; (case hw => rfl); (case hot => rfl)) | (apply Ab.D.w1t; (case hw => rfl); (case hot => rfl)) | (apply Ab.D.q0; (case hw => rfl); intro _ _) | (apply Ab.D.w1n; (case hw => rfl); intro _ _) | (apply Ab.D.w2n; (case hw => rfl); intro _ _) | (apply Xg.s; constructor) | fail | apply Ab.D.guardG) | exact ⟨rfl, rfl⟩ | (apply Ab.K.awp; first | (apply AWp.draw (id := 5) [[], [], [], [1, 2], [1, 2, 3], [0, 1, 2, 3, 4]] [] (by kernel_rfl) (by kernel_rfl) (by simp [apartW, unordB, cC] <;> omega)) | (apply Xg.s; constructor)) | (apply Ab.K.at_; exact at_) | (apply Ab.K.acall; first | assumption | exact c42 _) | (apply Ab.Rg.mk; omega) | (apply Ab.Lt.mk; first | decide | (simp; done) | (simp; omega) | first | omega | (show (0 + 3 : Nat) < 3 + 1; decide)) | (apply Ab.Get.mk; first | rfl | fail) | (apply Ab.Nm.mk; first | first | exact hE0 | exact Eq.trans (congrArg (fun z => List.take _ (List.drop (z * 3) cs)) (Int.toNat_natCast i)) hE | exact (show ((ec e).drop 0).take 3 = ec e from rfl) | exact nrm_) | (apply Xg.s; constructor) | (apply Ab.asm; assumption) | rfl | infer_instance | decide))
      exact X.roundN (n - (i + 1)) (by omega) ⟨i + 1, f, by exact ev_, by exact ev_, by exact ev_, by exact ev_, by exact at_, At.hit, by exact fr_, .inr hnew, by omega, rfl⟩
    · rw [decide_eq_false hless] at c42
      have hnew : Top1 (l.take (i + 1)) e := by
        rcases hi1 with ⟨rfl, rfl⟩ | h1
        · rw [hi'] at hf0; obtain rfl := Option.some.inj hf0; rw [htk]; exact Top1.one _
        · rw [htk]; exact h1.stay hless
      (repeat' (first | (apply Ab.K.ev; exact ev_) | (apply Ab.K.aops; first | (apply Xg.s; constructor) | (apply Ab.S.guardU; (case hd => rfl); (case hb => (exact ev_; done))) | apply Ab.S.guardG) | (apply Ab.K.aop; first | (first | (apply Ab.O.allocA (l := ec ⟨0, 0, 0⟩) (N + 0); (case hid => exact frees_); (case hp => rfl)) | (apply Ab.O.allocA (l := ec ⟨0, 0, 0⟩) (N + 1); (case hid => exact frees_); (case hp => rfl)) | (apply Ab.O.storeAll; (case hz => rfl); (case hx => exact ev_); (case hy => exact ev_); (case hs => exact at_); (case hl => rfl); (case hc => rfl))) | (apply Og.s; constructor)) | (apply Ab.K.gk; first | (apply Xg.s; constructor) | (apply Ab.gY; case hw => assumption) | (apply Ab.gNT; case hw => assumption) | (apply Ab.gNF; case hw => assumption) | ((first | apply Ab.gD | apply Ab.gDN); all_goals (intro _ _; (first | contradiction | (exfalso; omega) | skip)))) | (apply Ab.K.aopsD; first | (apply Ab.D.q0t; (case hw => rfl); (case hot => rfl)) | (apply Ab.D.w1t; (case hw => rfl); (case hot => rfl)) | (apply Ab.D.q0; (case hw => rfl); intro _ _) | (apply Ab.D.w1n; (case hw => rfl); intro _ _) | (apply Ab.D.w2n; (case hw => rfl); intro _ _) | (apply Xg.s; constructor) | fail | apply Ab.D.guardG) | exact ⟨rfl, rfl⟩ | (apply Ab.K.awp; first | (apply AWp.draw (id := 5) [[], [], [], [1, 2], [1, 2, 3], [0, 1, 2, 3, 4]] [] (by kernel_rfl) (by kernel_rfl) (by simp [apartW, unordB, cC] <;> omega)) | (apply Xg.s; constructor)) | (apply Ab.K.at_; exact at_) | (apply Ab.K.acall; first | assumption | exact c42 _) | (apply Ab.Rg.mk; omega) | (apply Ab.Lt.mk; first | decide | (simp; done) | (simp; omega) | first | omega | (show (0 + 3 : Nat) < 3 + 1; decide)) | (apply Ab.Get.mk; first | rfl | fail) | (apply Ab.Nm.mk; first | first | exact hE0 | exact Eq.trans (congrArg (fun z => List.take _ (List.drop (z * 3) cs)) (Int.toNat_natCast i)) hE | exact (show ((ec e).drop 0).take 3 = ec e from rfl) | exact nrm_) | (apply Xg.s; constructor) | (apply Ab.asm; assumption) | rfl | infer_instance | decide))
      exact X.roundN (n - (i + 1)) (by omega) ⟨i + 1, e, by exact ev_, by exact ev_, by exact ev_, by exact ev_, a2, a3, F, .inr hnew, by omega, rfl⟩
  · obtain rfl : i = n := by omega
    have he : Top1 l e := by
      rcases hi1 with ⟨h1, _⟩ | h1
      · omega
      · rwa [hnl, List.take_length] at h1
    obtain rfl : e = g := he.uniq (fun _ => Iff.rfl) hg
    (repeat' (first | (apply Ab.K.ev; exact ev_) | (apply Ab.K.aops; first | (apply Xg.s; constructor) | (apply Ab.S.guardU; (case hd => rfl); (case hb => (exact ev_; done))) | apply Ab.S.guardG) | (apply Ab.K.aop; first | (first | (apply Ab.O.allocA (l := ec ⟨0, 0, 0⟩) (N + 0); (case hid => exact frees_); (case hp => rfl)) | (apply Ab.O.allocA (l := ec ⟨0, 0, 0⟩) (N + 1); (case hid => exact frees_); (case hp => rfl)) | (apply Ab.O.storeAll; (case hz => rfl); (case hx => exact ev_); (case hy => exact ev_); (case hs => exact at_); (case hl => rfl); (case hc => rfl))) | (apply Og.s; constructor)) | (apply Ab.K.gk; first | (apply Xg.s; constructor) | (apply Ab.gY; case hw => assumption) | (apply Ab.gNT; case hw => assumption) | (apply Ab.gNF; case hw => assumption) | ((first | apply Ab.gD | apply Ab.gDN); all_goals (intro _ _; (first | contradiction | (exfalso; omega) | skip)))) | (apply Ab.K.awp; first | (apply Xg.s; constructor)) | (apply Ab.K.at_; exact at_) | (apply Ab.K.acall; first | assumption | exact c42 _) | (apply Ab.Rg.mk; omega) | (apply Ab.Lt.mk; first | decide | (simp; done) | (simp; omega) | first | omega | (show (0 + 3 : Nat) < 3 + 1; decide)) | (apply Ab.Get.mk; first | rfl | fail) | (apply Ab.Nm.mk; first | first | exact hE0 | exact Eq.trans (congrArg (fun z => List.take _ (List.drop (z * 3) cs)) (Int.toNat_natCast i)) hE | exact (show ((ec e).drop 0).take 3 = ec e from rfl) | exact nrm_) | (apply Xg.s; constructor) | (apply Ab.asm; assumption) | rfl | infer_instance | decide))
    all_goals ((first | apply RetQ.ret | apply RetQ.normal); (case he => exact evr_); (case hg => rfl))
    all_goals first | rfl | (apply Keeps.fr; (case h => exact fr_); (case hv => exact plR.nm rfl))
/-! ### all behind a node -/
noncomputable def belB (l : List E) (root a : Int) (i : Nat) : Bool := open Classical in decide (TP.Node root ∧ ∃ p, TP.Way l root i p ∧ a ∈ p)
theorem belB_iff {l : List E} {root a : Int} {i : Nat} : belB l root a i = true ↔ TP.Node root ∧ ∃ p, TP.Way l root i p ∧ a ∈ p := by simp [belB]
noncomputable def bel (l : List E) (root a : Int) : List Int := lkN (belB l root a) 64
set_option maxRecDepth 4000 in
set_option maxHeartbeats 4000000 in
theorem below19 {s : AHeap} {A : Option Addr} {n c : Nat} {on : Option Nat} {l : List E} {root a : Int} {o : Nat} (h : EA s (.slice A n c) on l) (hg : TP.Good l) (hc : Cut l) (hr : TP.Node root) (hn : n ≤ 512) (ho : s o = none) :
    ACall Try.prog 19 [.slice A n c, .int .i64 root, .int .i64 a] s (.slice (some ⟨o, 0, none⟩) (bel l root a).length (bel l root a).length) (s.set o (.cells true 1 (ints (bel l root a)))) := by
  have hnl : n = l.length := by obtain ⟨_, _, e⟩ := h.isl; injection e
  refine ACall.make Try.func19 rfl (by kernel_rfl) (by decide) rfl (fun N hN => ?_)
  have hT : Top N s := hN



  (repeat' (first | (apply Ab.K.ev; exact ev_) | (apply Ab.K.aops; first | (apply Xg.s; constructor) | (apply Ab.S.guardU; (case hd => rfl); (case hb => (exact ev_; done))) | apply Ab.S.guardG) | (apply Ab.K.aop; first | (apply Ab.O.build0 (N + 0) (te := ⟨.int .i64, 1, 8, .int .i64 0⟩); (case hz => exact ⟨rfl, rfl⟩); (case hid => exact frees_)) | (apply Og.s; constructor)) | (apply Ab.K.gk; first | (apply Xg.s; constructor) | (apply Ab.gY; case hw => assumption) | (apply Ab.gNT; case hw => assumption) | (apply Ab.gNF; case hw => assumption) | ((first | apply Ab.gD | apply Ab.gDN); all_goals (intro _ _; (first | contradiction | (exfalso; omega) | skip)))) | (apply Ab.K.awp; first | (apply Xg.s; constructor)) | (apply Ab.K.at_; exact at_) | (apply Ab.K.acall; first | assumption | fail) | (apply Ab.Rg.mk; omega) | (apply Ab.Lt.mk; first | decide | (simp; done) | (simp; omega) | first | omega | (show (0 + 3 : Nat) < 3 + 1; decide)) | (apply Ab.Get.mk; first | rfl | fail) | (apply Ab.Nm.mk; first | exact nrm_) | (apply Xg.s; constructor) | (apply Ab.asm; assumption) | rfl | infer_instance | decide))
  refine AWp.loop (fun kk tm s1 => ∃ (i q M : Nat) (r : List Int), Ev tm (.tmp 0) (.slice A n c) ∧ Ev tm (.tmp 1) (.int .i64 root) ∧ Ev tm (.tmp 2) (.int .i64 a) ∧ Ev tm (.tmp 7) (.slice (some ⟨q, 0, none⟩) r.length r.length) ∧ Ev tm (.tmp 8) (.int .i64 ((i + 1 : Nat) : Int)) ∧ At s1 q (.cells true 1 (ints r)) ∧ r = lkN (belB l root a) i ∧ Fr s1 s [] ∧ N ≤ q ∧ Top M s1 ∧ i ≤ 64 ∧ kk = 64 - i) 64 ?_ ?_
  · exact ⟨0, N + 0, N + 1, [], by exact ev_, by exact ev_, by exact ev_, by exact ev_, by exact ev_, by exact at_, rfl, by exact fr_, Nat.le_refl _, hT.new, by omega, rfl⟩
  rintro kk tm s1 ⟨i, q, M, r, e0, e1, e2, e7, e8, a7, hrr, F, hq, T, hi, hkk⟩
  have hqM := T.lt a7
  have hrl : r.length ≤ i := by rw [hrr]; exact lkN_len
  by_cases hin : i < 64
  · have h1 := h.fr F
    have c9 := linked9 (a := root) (b := ((i + 1 : Nat) : Int)) h1 (Good.node hg) (by omega)
    cases hk : lkB l root ((i + 1 : Nat) : Int)
    · rw [hk] at c9
      have hb : belB l root a (i + 1) = false := by
        cases hh : belB l root a (i + 1) with
        | false => rfl
        | true =>
          obtain ⟨_, p, hp, _⟩ := belB_iff.1 hh
          have := lkB_iff.2 ⟨hr, (⟨by omega, by omega⟩ : TP.Node ((i + 1 : Nat) : Int)), hp.conn⟩
          rw [hk] at this; cases this
      have hr2 : r = lkN (belB l root a) (i + 1) := by rw [lkN, if_neg (by rw [hb]; decide), List.append_nil]; exact hrr
      (repeat' (first | (apply Ab.K.ev; exact ev_) | (apply Ab.K.aops; first | (apply Xg.s; constructor) | (apply Ab.S.guardU; (case hd => rfl); (case hb => (exact ev_; done))) | apply Ab.S.guardG) | (apply Ab.K.aop; first | (apply Og.s; constructor)) | (apply Ab.K.gk; first | (apply Xg.s; constructor) | (apply Ab.gY; case hw => assumption) | (apply Ab.gNT; case hw => assumption) | (apply Ab.gNF; case hw => assumption) | ((first | apply Ab.gD | apply Ab.gDN); all_goals (intro _ _; (first | contradiction | (exfalso; omega) | skip)))) | (apply Ab.K.awp; first | (apply Xg.s; constructor)) | (apply Ab.K.at_; exact at_) | (apply Ab.K.acall; first | assumption | exact c9) | (apply Ab.Rg.mk; omega) | (apply Ab.Lt.mk; first | decide | (simp; done) | (simp; omega) | first | omega | (show (0 + 3 : Nat) < 3 + 1; decide)) | (apply Ab.Get.mk; first | rfl | fail) | (apply Ab.Nm.mk; first | exact nrm_) | (apply Xg.s; constructor) | (apply Ab.asm; assumption) | rfl | infer_instance | decide))
      exact X.roundN (64 - (i + 1)) (by omega) ⟨i + 1, q, M, r, by exact ev_, by exact ev_, by exact ev_, by exact ev_, by exact ev_, a7, hr2, F, hq, T, by omega, rfl⟩
    · rw [hk] at c9
      obtain ⟨_, hnn, hcon⟩ := lkB_iff.1 hk
      obtain ⟨p, hp⟩ := Way.ex hcon
      have hp64 := hp.short (Good.node hg) hr
      have c23 := way23 (o := M) h1 hg hc hp hr hnn hn (T.none (Nat.le_refl _))
      have hbi : belB l root a (i + 1) = true ↔ a ∈ p := by
        rw [belB_iff]
        exact ⟨fun ⟨_, p', hp', ha⟩ => by rw [← hp.uniq hc hp']; exact ha, fun ha => ⟨hr, p, hp, ha⟩⟩
      (repeat' (first | (apply Ab.K.ev; exact ev_) | (apply Ab.K.aops; first | (apply Xg.s; constructor) | (apply Ab.S.guardU; (case hd => rfl); (case hb => (exact ev_; done))) | apply Ab.S.guardG) | (apply Ab.K.aop; first | (apply Og.s; constructor)) | (apply Ab.K.gk; first | (apply Xg.s; constructor) | (apply Ab.gY; case hw => assumption) | (apply Ab.gNT; case hw => assumption) | (apply Ab.gNF; case hw => assumption) | ((first | apply Ab.gD | apply Ab.gDN); all_goals (intro _ _; (first | contradiction | (exfalso; omega) | skip)))) | (apply Ab.K.awp; first | (apply Xg.s; constructor)) | (apply Ab.K.at_; exact at_) | (apply Ab.K.acall; first | assumption | first | exact c9 | exact c23) | (apply Ab.Rg.mk; omega) | (apply Ab.Lt.mk; first | decide | (simp; done) | (simp; omega) | first | omega | (show (0 + 3 : Nat) < 3 + 1; decide)) | (apply Ab.Get.mk; first | rfl | fail) | (apply Ab.Nm.mk; first | exact nrm_) | (apply Xg.s; constructor) | (apply Ab.asm; assumption) | rfl | infer_instance | decide))
      refine AWp.loop (fun k2 tm s2 => ∃ (k q' M' : Nat) (r' : List Int), Ev tm (.tmp 0) (.slice A n c) ∧ Ev tm (.tmp 1) (.int .i64 root) ∧ Ev tm (.tmp 2) (.int .i64 a) ∧ Ev tm (.tmp 7) (.slice (some ⟨q', 0, none⟩) r'.length r'.length) ∧ Ev tm (.tmp 8) (.int .i64 ((i + 1 : Nat) : Int)) ∧ Ev tm (.tmp 9) (.slice (some ⟨M, 0, none⟩) p.length p.length) ∧ Ev tm (.tmp 10) (.int .i64 k) ∧ At s2 M (.cells true 1 (ints p)) ∧ At s2 q' (.cells true 1 (ints r')) ∧ ((a ∈ p.take k ∧ r' = r ++ [((i + 1 : Nat) : Int)]) ∨ (a ∉ p.take k ∧ r' = r)) ∧ Fr s2 s [] ∧ N ≤ q' ∧ q' ≠ M ∧ Top M' s2 ∧ k ≤ p.length ∧ k2 = p.length - k) p.length ?_ ?_
      · exact ⟨0, q, M + 1, r, by exact ev_, by exact ev_, by exact ev_, by exact ev_, by exact ev_, by exact ev_, by exact ev_, At.hit, At.miss (by omega) a7, .inr ⟨by simp, rfl⟩, Fr.new (hT.free (by omega)) F, hq, by omega, T.new, by omega, rfl⟩
      clear a7 F e0 e1 e2 e7 e8 T
      rintro k2 tm s2 ⟨k, q', M', r', e0, e1, e2, e7, e8, e9, e10, a9, a7, hrk, F, hq', hqm, T, hk1, hk2⟩
      have hqM' := T.lt a7
      have hMM' := T.lt a9
      by_cases hkin : k < p.length
      · obtain ⟨x, hx⟩ : ∃ x, p[k]? = some x := ⟨_, List.getElem?_eq_getElem hkin⟩
        have gx := ints_get hx
        have htk : p.take (k + 1) = p.take k ++ [x] := by rw [List.take_add_one, hx]; rfl
        by_cases hxa : x = a
        · have hnot : a ∉ p.take k := fun hm => by
            have hnd : (p.take k ++ [x]).Nodup := by rw [← htk]; exact hp.nodup.sublist (List.take_sublist _ _)
            exact (List.nodup_append.1 hnd).2.2 a hm x (by simp) hxa.symm
          obtain ⟨_, rfl⟩ := hrk.resolve_left (fun h => hnot h.1)
          (repeat' (first | (apply Ab.K.ev; exact ev_) | (apply Ab.K.aops; first | (apply Xg.s; constructor) | (apply Ab.S.guardU; (case hd => rfl); (case hb => (exact ev_; done))) | apply Ab.S.guardG) | (apply Ab.K.aop; first | (apply Ab.O.build1 (M'); (case hx => exact ev_); (case hv => exact ⟨rfl, rfl⟩); (case hz => exact ⟨rfl, rfl⟩); (case hid => exact free_)) | (apply Og.s; constructor)) | (apply Ab.K.gk; first | (apply Xg.s; constructor) | (apply Ab.gY; case hw => assumption) | (apply Ab.gNT; case hw => assumption) | (apply Ab.gNF; case hw => assumption) | ((first | apply Ab.gD | apply Ab.gDN); all_goals (intro _ _; (first | contradiction | (exfalso; omega) | skip)))) | (apply Ab.K.awp; first | (apply Xg.s; constructor)) | (apply Ab.K.at_; exact at_) | (apply Ab.K.acall; first | assumption | fail) | (apply Ab.Rg.mk; omega) | (apply Ab.Lt.mk; first | decide | (simp; done) | (simp; omega) | first | omega | (show (0 + 3 : Nat) < 3 + 1; decide)) | (apply Ab.Get.mk; first | rfl | (rw [Int.toNat_natCast]; exact gx)) | (apply Ab.Nm.mk; first | exact nrm_) | (apply Xg.s; constructor) | (apply Ab.asm; assumption) | rfl | infer_instance | decide))
          (apply Ab.O.appendL (M' + 1); (case hx => exact ev_); (case hL => first | exact LAt.nil | exact LAt.blk (by exact at_) (by first | rfl | simp [ints_length])); (case hy => exact ev_); (case hs => first | exact Src.sl (by exact at_) (by decide) (by decide) rfl | exact srcAll (by exact at_) (by first | rfl | simp [ints_length])); (case hk => rfl); (case hm => decide); (case hl => first | rfl | first | rfl | simp [ints_length]); (case hz => decide); (case hb => omega); (case hfree => exact free_))
          intro s3 g
          have out : ∀ j, j < M' → q' ≠ j → s3 j = s2 j := fun j hj hne => by rw [g.off _ (fun e => hne (Option.some.inj e)) (by omega), AHeap.set_other _ _ (by omega)]
          have T2 := g.topN T.new (fun q' e => by have := Option.some.inj e; omega)
          have F2 := g.fr (Fr.new (hT.free (by omega)) F) (fun q' e => .inl (hT.none (by have := Option.some.inj e; omega)))
          have a9' : At s3 M (.cells true 1 (ints p)) := At.var (by rw [out _ hMM' hqm]; exact a9.eq)
          have gh := g.hit
          (repeat' (first | (apply Ab.K.ev; exact ev_) | (apply Ab.K.aops; first | (apply Xg.s; constructor) | (apply Ab.S.guardU; (case hd => rfl); (case hb => (exact ev_; done))) | apply Ab.S.guardG) | (apply Ab.K.aop; first | (apply Og.s; constructor)) | (apply Ab.K.gk; first | (apply Xg.s; constructor) | (apply Ab.gY; case hw => assumption) | (apply Ab.gNT; case hw => assumption) | (apply Ab.gNF; case hw => assumption) | ((first | apply Ab.gD | apply Ab.gDN); all_goals (intro _ _; (first | contradiction | (exfalso; omega) | skip)))) | (apply Ab.K.awp; first | (apply Xg.s; constructor)) | (apply Ab.K.at_; exact at_) | (apply Ab.K.acall; first | assumption | fail) | (apply Ab.Rg.mk; omega) | (apply Ab.Lt.mk; first | decide | (simp; done) | (simp; omega) | first | omega | (show (0 + 3 : Nat) < 3 + 1; decide)) | (apply Ab.Get.mk; first | rfl | (rw [Int.toNat_natCast]; exact gx)) | (apply Ab.Nm.mk; first | exact nrm_) | (apply Xg.s; constructor) | (apply Ab.asm; assumption) | rfl | infer_instance | decide))
          exact X.roundN (p.length - (k + 1)) (by omega) ⟨k + 1, M' + 1, M' + 2, r' ++ [((i + 1 : Nat) : Int)], by exact ev_, by exact ev_, by exact ev_, by rw [List.length_append]; exact ev_, by exact ev_, by exact ev_, by exact ev_, a9', by rw [ints_append]; exact gh, .inl ⟨by rw [htk, hxa]; simp, rfl⟩, F2, by omega, by omega, T2, by omega, rfl⟩
        · have hrk2 : (a ∈ p.take (k + 1) ∧ r' = r ++ [((i + 1 : Nat) : Int)]) ∨ (a ∉ p.take (k + 1) ∧ r' = r) := by
            rw [htk]
            rcases hrk with ⟨h1, h2⟩ | ⟨h1, h2⟩
            · exact .inl ⟨List.mem_append_left _ h1, h2⟩
            · exact .inr ⟨fun hm => (List.mem_append.1 hm).elim h1 (fun hm => hxa (List.mem_singleton.1 hm).symm), h2⟩
          (repeat' (first | (apply Ab.K.ev; exact ev_) | (apply Ab.K.aops; first | (apply Xg.s; constructor) | (apply Ab.S.guardU; (case hd => rfl); (case hb => (exact ev_; done))) | apply Ab.S.guardG) | (apply Ab.K.aop; first | (apply Og.s; constructor)) | (apply Ab.K.gk; first | (apply Xg.s; constructor) | (apply Ab.gY; case hw => assumption) | (apply Ab.gNT; case hw => assumption) | (apply Ab.gNF; case hw => assumption) | ((first | apply Ab.gD | apply Ab.gDN); all_goals (intro _ _; (first | contradiction | (exfalso; omega) | skip)))) | (apply Ab.K.awp; first | (apply Xg.s; constructor)) | (apply Ab.K.at_; exact at_) | (apply Ab.K.acall; first | assumption | fail) | (apply Ab.Rg.mk; omega) | (apply Ab.Lt.mk; first | decide | (simp; done) | (simp; omega) | first | omega | (show (0 + 3 : Nat) < 3 + 1; decide)) | (apply Ab.Get.mk; first | rfl | (rw [Int.toNat_natCast]; exact gx)) | (apply Ab.Nm.mk; first | exact nrm_) | (apply Xg.s; constructor) | (apply Ab.asm; assumption) | rfl | infer_instance | decide))
          exact X.roundN (p.length - (k + 1)) (by omega) ⟨k + 1, q', M', r', by exact ev_, by exact ev_, by exact ev_, by exact ev_, by exact ev_, by exact ev_, by exact ev_, a9, a7, hrk2, F, hq', hqm, T, by omega, rfl⟩
      · obtain rfl : k = p.length := by omega
        rw [List.take_length] at hrk
        have hr2 : r' = lkN (belB l root a) (i + 1) := by
          rw [lkN, ← hrr]
          rcases hrk with ⟨h1, h2⟩ | ⟨h1, h2⟩
          · rw [if_pos (hbi.2 h1)]; exact h2
          · rw [if_neg (fun h => h1 (hbi.1 h)), List.append_nil]; exact h2
        (repeat' (first | (apply Ab.K.ev; exact ev_) | (apply Ab.K.aops; first | (apply Xg.s; constructor) | (apply Ab.S.guardU; (case hd => rfl); (case hb => (exact ev_; done))) | apply Ab.S.guardG) | (apply Ab.K.aop; first | (apply Og.s; constructor)) | (apply Ab.K.gk; first | (apply Xg.s; constructor) | (apply Ab.gY; case hw => assumption) | (apply Ab.gNT; case hw => assumption) | (apply Ab.gNF; case hw => assumption) | ((first | apply Ab.gD | apply Ab.gDN); all_goals (intro _ _; (first | contradiction | (exfalso; omega) | skip)))) | (apply Ab.K.awp; first | (apply Xg.s; constructor)) | (apply Ab.K.at_; exact at_) | (apply Ab.K.acall; first | assumption | fail) | (apply Ab.Rg.mk; omega) | (apply Ab.Lt.mk; first | decide | (simp; done) | (simp; omega) | first | omega | (show (0 + 3 : Nat) < 3 + 1; decide)) | (apply Ab.Get.mk; first | rfl | (rw [Int.toNat_natCast]; exact gx)) | (apply Ab.Nm.mk; first | exact nrm_) | (apply Xg.s; constructor) | (apply Ab.asm; assumption) | rfl | infer_instance | decide))
        exact X.roundN (64 - (i + 1)) (by omega) ⟨i + 1, q', M', r', by exact ev_, by exact ev_, by exact ev_, by exact ev_, by exact ev_, a7, hr2, F, hq', T, by omega, rfl⟩
  · obtain rfl : i = 64 := by omega
    have hr2 : r = bel l root a := hrr
    rw [← hr2]
    (repeat' (first | (apply Ab.K.ev; exact ev_) | (apply Ab.K.aops; first | (apply Xg.s; constructor) | (apply Ab.S.guardU; (case hd => rfl); (case hb => (exact ev_; done))) | apply Ab.S.guardG) | (apply Ab.K.aop; first | (apply Og.s; constructor)) | (apply Ab.K.gk; first | (apply Xg.s; constructor) | (apply Ab.gY; case hw => assumption) | (apply Ab.gNT; case hw => assumption) | (apply Ab.gNF; case hw => assumption) | ((first | apply Ab.gD | apply Ab.gDN); all_goals (intro _ _; (first | contradiction | (exfalso; omega) | skip)))) | (apply Ab.K.awp; first | (apply Xg.s; constructor)) | (apply Ab.K.at_; exact at_) | (apply Ab.K.acall; first | assumption | fail) | (apply Ab.Rg.mk; omega) | (apply Ab.Lt.mk; first | decide | (simp; done) | (simp; omega) | first | omega | (show (0 + 3 : Nat) < 3 + 1; decide)) | (apply Ab.Get.mk; first | rfl | (rw [Int.toNat_natCast]; exact gx)) | (apply Ab.Nm.mk; first | exact nrm_) | (apply Xg.s; constructor) | (apply Ab.asm; assumption) | rfl | infer_instance | decide))
    apply RetQ.retR (renL (dn [(o, q, .cells true 1 (ints r))]))
    (case he => exact evr_)
    (case hg => rfl)
    · simp [resV, mpR, mpB, mp1, mpA, renL_hit]
    · exact KeepsR.new1 ho (hT.none (by omega)) F a7 (ints_pl _) rfl
    · simp
end Go.Proofs.Ytnbgeodignljfaa
