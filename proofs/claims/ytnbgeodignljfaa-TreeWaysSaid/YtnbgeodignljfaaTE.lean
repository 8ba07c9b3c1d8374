/- trees: the document's forests, which edges may be together. -/
import Derived.Test.YtnbgeodignljfaaTD
namespace Go.Proofs.Ytnbgeodignljfaa
set_option linter.unusedVariables false
set_option linter.unusedSimpArgs false
set_option linter.unusedSectionVars false
open Go.RowKit Ab TP
attribute [local irreducible] AOps AOpsD AOp AWp put nargs AHeap.set At Free ACall thenQ blockQ roundQ RetQ Src bsn
theorem EA.take {s : AHeap} {q n c i : Nat} {on : Option Nat} {l : List E} (h : EA s (.slice (some ⟨q, 0, none⟩) n c) on l) (hi : i ≤ n) : EA s (.slice (some ⟨q, 0, none⟩) i c) on (l.take i) := by
  cases h with
  | @blk _ _ rw cs _ h a b =>
    have hl : (l.take i).length = i := by rw [List.length_take]; omega
    have := EA.blk (c := c) (l := l.take i) h (by omega) (by
      rw [hl]
      have h2 : (cs.take (l.length * 3)).take (i * 3) = cs.take (i * 3) := by rw [List.take_take]; congr 1; omega
      rw [← h2, b]
      have : ecs l = ecs (l.take i) ++ ecs (l.drop i) := by rw [← ecs_append, List.take_append_drop]
      rw [this, List.take_left' (by rw [ecs_length, hl])])
    rwa [hl] at this
noncomputable def foB (l : List E) : Bool := open Classical in decide (Forest l)
theorem foB_iff {l : List E} : foB l = true ↔ Forest l := by simp [foB]
theorem forest22 {s : AHeap} {A : Option Addr} {n c : Nat} {on : Option Nat} {l : List E} (h : EA s (.slice A n c) on l) (hl : ∀ e ∈ l, TP.Node e.a ∧ TP.Node e.b) (hn : n < 4611686018427387904) :
    ACall Try.prog 22 [.slice A n c] s (.bool (foB l)) s := by
  have hnl : n = l.length := by obtain ⟨_, _, e⟩ := h.isl; injection e
  refine ACall.make Try.func22 rfl (by kernel_rfl) (by decide) rfl (fun N hN => ?_)
  (repeat' (first | (apply Ab.K.ev; exact ev_) | (apply Ab.K.aops; first | (apply Xg.s; constructor) | (apply Ab.S.guardU; (case hd => rfl); (case hb => (exact ev_; done))) | apply Ab.S.guardG) | (apply Ab.K.aop; first | (apply Og.s; constructor)) | (apply Ab.K.gk; first | (apply Xg.s; constructor) | (apply Ab.gY; case hw => assumption) | (apply Ab.gNT; case hw => assumption) | (apply Ab.gNF; case hw => assumption) | ((first | apply Ab.gD | apply Ab.gDN); all_goals (intro _ _; (first | contradiction | (exfalso; omega) | skip)))) | (apply Ab.K.awp; first | (apply Xg.s; constructor)) | (apply Ab.K.at_; exact at_) | (apply Ab.K.acall; first | assumption | fail) | (apply Ab.Rg.mk; omega) | (apply Ab.Lt.mk; first | decide | (simp; done) | (simp; omega) | fail) | (apply Ab.Get.mk; first | rfl | fail) | (apply Ab.Nm.mk; first | exact nrm_) | (apply Xg.s; constructor) | (apply Ab.asm; assumption) | rfl | infer_instance | decide))
  refine AWp.loop (fun kk tm s1 => ∃ i : Nat, Ev tm (.tmp 0) (.slice A n c) ∧ Ev tm (.tmp 3) (.int .i64 i) ∧ s1 = s ∧ i ≤ n ∧ (∀ j, j < i → ∀ e, l[j]? = some e → ¬ Conn (l.take j) e.a e.b) ∧ kk = n - i) n ?_ ?_
  · exact ⟨0, by exact ev_, by exact ev_, rfl, by omega, fun j hj => by omega, rfl⟩
  rintro k tm s1 ⟨i, ev0, ev3, rfl, hi, hall, hk⟩
  by_cases hlt : i < n
  · have hi' : l[i]? = some (l[i]'(by omega)) := List.getElem?_eq_getElem (by omega)
    obtain ⟨e, hee⟩ : ∃ e, e = l[i]'(by omega) := ⟨_, rfl⟩
    rw [← hee] at hi'
    have hne := hl e (List.mem_of_getElem? hi')
    have h0 := h
    obtain ⟨q, rw1, cs, rfl, hon, _, hq, _, _, g0, g1, _⟩ := h0.elt hi'
    have hc : n ≤ c := by cases h with | blk a b c => exact hnl ▸ b
    have hb : lkB (l.take i) e.a e.b = true ↔ Conn (l.take i) e.a e.b := lkB_iff.trans ⟨fun h => h.2.2, fun h => ⟨hne.1, hne.2, h⟩⟩
    have c9 := linked9 (a := e.a) (b := e.b) (h.take (i := i) (by omega)) (fun f hf => hl f (List.mem_of_mem_take hf)) (by omega)


    cases hlk : lkB (l.take i) e.a e.b
    · rw [hlk] at c9
      (repeat' (first | (apply Ab.K.ev; exact ev_) | (apply Ab.K.aops; first | (apply Xg.s; constructor) | (apply Ab.S.guardU; (case hd => rfl); (case hb => (exact ev_; done))) | apply Ab.S.guardG) | (apply Ab.K.aop; first | (apply Og.s; constructor)) | (apply Ab.K.gk; first | (apply Xg.s; constructor) | (apply Ab.gY; case hw => assumption) | (apply Ab.gNT; case hw => assumption) | (apply Ab.gNF; case hw => assumption) | ((first | apply Ab.gD | apply Ab.gDN); all_goals (intro _ _; (first | contradiction | (exfalso; omega) | skip)))) | (apply Ab.K.aopsD; first | (apply Ab.D.q0t; (case hw => rfl); (case hot => rfl)) | (apply Ab.D.w1t; (case hw => rfl); (case hot => rfl)) | (apply Ab.D.q0; (case hw => rfl); intro _ _) | (apply Ab.D.w1n; (case hw => rfl); intro _ _) | (apply Ab.D.w2n; (case hw => rfl); intro _ _) | (apply Xg.s; constructor) | fail | apply Ab.D.guardG) | exact ⟨rfl, rfl⟩ | (apply Ab.K.awp; first | (apply AWp.draw (id := 4) [[], [], [0, 1], [], [], [3, 4], [3, 4, 5], [3, 4, 5, 6], [], [], [8, 9], [8, 9, 10], [8, 9, 10, 11], [0, 1, 2, 3, 4, 5, 6, 7, 8, 9, 10, 11, 12]] [] (by kernel_rfl) (by kernel_rfl) (by simp [apartW, unordB, cC] <;> omega)) | (apply Xg.s; constructor)) | (apply Ab.K.at_; exact at_) | (apply Ab.K.acall; first | assumption | exact c9) | (apply Ab.Rg.mk; omega) | (apply Ab.Lt.mk; first | decide | (simp; done) | (simp; omega) | fail) | (apply Ab.Get.mk; first | rfl | (rw [Int.toNat_natCast]; first | exact g0 | exact g1)) | (apply Ab.Nm.mk; first | exact nrm_) | (apply Xg.s; constructor) | (apply Ab.asm; assumption) | rfl | infer_instance | decide))
      exact X.roundN (n - (i + 1)) (by omega) ⟨i + 1, by exact ev_, by exact ev_, rfl, by omega, fun j hj f hf hcon => (by
        by_cases hji : j = i
        · subst hji
          rw [hi'] at hf
          obtain rfl := Option.some.inj hf
          rw [hb.2 hcon] at hlk; cases hlk
        · exact hall j (by omega) f hf hcon), rfl⟩
    · rw [hlk] at c9
      have hf : foB l = false := by
        cases hh : foB l with
        | false => rfl
        | true => exact absurd (hb.1 hlk) (foB_iff.1 hh i e hi')
      rw [hf]
      (repeat' (first | (apply Ab.K.ev; exact ev_) | (apply Ab.K.aops; first | (apply Xg.s; constructor) | (apply Ab.S.guardU; (case hd => rfl); (case hb => (exact ev_; done))) | apply Ab.S.guardG) | (apply Ab.K.aop; first | (apply Og.s; constructor)) | (apply Ab.K.gk; first | (apply Xg.s; constructor) | (apply Ab.gY; case hw => assumption) | (apply Ab.gNT; case hw => assumption) | (apply Ab.gNF; case hw => assumption) | ((first | apply Ab.gD | apply Ab.gDN); all_goals (intro _ _; (first | contradiction | (exfalso; omega) | skip)))) | (apply Ab.K.aopsD; first | (apply Ab.D.q0t; (case hw => rfl); (case hot => rfl)) | (apply Ab.D.w1t; (case hw => rfl); (case hot => rfl)) | (apply Ab.D.q0; (case hw => rfl); intro _ _) | (apply Ab.D.w1n; (case hw => rfl); intro _ _) | (apply Ab.D.w2n; (case hw => rfl); intro _ _) | (apply Xg.s; constructor) | fail | apply Ab.D.guardG) | exact ⟨rfl, rfl⟩ | (apply Ab.K.awp; first | (apply AWp.draw (id := 4) [[], [], [0, 1], [], [], [3, 4], [3, 4, 5], [3, 4, 5, 6], [], [], [8, 9], [8, 9, 10], [8, 9, 10, 11], [0, 1, 2, 3, 4, 5, 6, 7, 8, 9, 10, 11, 12]] [] (by kernel_rfl) (by kernel_rfl) (by simp [apartW, unordB, cC] <;> omega)) | (apply Xg.s; constructor)) | (apply Ab.K.at_; exact at_) | (apply Ab.K.acall; first | assumption | exact c9) | (apply Ab.Rg.mk; omega) | (apply Ab.Lt.mk; first | decide | (simp; done) | (simp; omega) | fail) | (apply Ab.Get.mk; first | rfl | (rw [Int.toNat_natCast]; first | exact g0 | exact g1)) | (apply Ab.Nm.mk; first | exact nrm_) | (apply Xg.s; constructor) | (apply Ab.asm; assumption) | rfl | infer_instance | decide))
      all_goals ((first | apply RetQ.ret | apply RetQ.normal); (case he => exact evr_); (case hg => rfl))
      all_goals first | rfl | exact Keeps.self trivial
  · have hf : foB l = true := foB_iff.2 fun j e hj hcon => hall j (by have := (List.getElem?_eq_some_iff.1 hj).1; omega) e hj hcon
    rw [hf]
    (repeat' (first | (apply Ab.K.ev; exact ev_) | (apply Ab.K.aops; first | (apply Xg.s; constructor) | (apply Ab.S.guardU; (case hd => rfl); (case hb => (exact ev_; done))) | apply Ab.S.guardG) | (apply Ab.K.aop; first | (apply Og.s; constructor)) | (apply Ab.K.gk; first | (apply Xg.s; constructor) | (apply Ab.gY; case hw => assumption) | (apply Ab.gNT; case hw => assumption) | (apply Ab.gNF; case hw => assumption) | ((first | apply Ab.gD | apply Ab.gDN); all_goals (intro _ _; (first | contradiction | (exfalso; omega) | skip)))) | (apply Ab.K.awp; first | (apply Xg.s; constructor)) | (apply Ab.K.at_; exact at_) | (apply Ab.K.acall; first | assumption | exact c9) | (apply Ab.Rg.mk; omega) | (apply Ab.Lt.mk; first | decide | (simp; done) | (simp; omega) | fail) | (apply Ab.Get.mk; first | rfl | (rw [Int.toNat_natCast]; first | exact g0 | exact g1)) | (apply Ab.Nm.mk; first | exact nrm_) | (apply Xg.s; constructor) | (apply Ab.asm; assumption) | rfl | infer_instance | decide))
    all_goals ((first | apply RetQ.ret | apply RetQ.normal); (case he => exact evr_); (case hg => rfl))
    all_goals first | rfl | exact Keeps.self trivial
/-! ### which edges may be together -/
instance {l : List E} : Decidable (Apart l) := by unfold Apart; infer_instance
instance {l : List E} : Decidable (TP.Good l) := by unfold TP.Good; infer_instance
def ckE (l : List E) : Int := if TP.Good l then 0 else 1
theorem ck_y {l : List E} (h : TP.Good l) : ckE l = 0 := if_pos h
theorem ck_n {l : List E} (h : ¬ TP.Good l) : ckE l = 1 := if_neg h
/-- What is told of pairs. -/
def Prs (l : List E) (f : Nat → Bool) : Prop := ∀ p, f p = true ↔ ∃ e ∈ l, p = e.a.toNat * 65 + e.b.toNat
theorem Prs.nil : Prs [] fun _ => false := fun p => by simp
theorem Prs.add {l : List E} {f : Nat → Bool} {e : E} (h : Prs l f) : Prs (l ++ [e]) fun j => decide (j = e.a.toNat * 65 + e.b.toNat * 1) || f j := fun p => by
  rw [Bool.or_eq_true, decide_eq_true_iff, h p, Nat.mul_one]
  simp only [List.mem_append, List.mem_singleton]
  constructor
  · rintro (h | ⟨g, hg, h⟩)
    · exact ⟨e, .inr rfl, h⟩
    · exact ⟨g, .inl hg, h⟩
  · rintro ⟨g, hg | rfl, h⟩
    · exact .inr ⟨g, hg, h⟩
    · exact .inl h
theorem Prs.met {l : List E} {f : Nat → Bool} {e : E} (h : Prs l f) (hl : ∀ g ∈ l, TP.Node g.a ∧ TP.Node g.b) (he : TP.Node e.a ∧ TP.Node e.b) : f (e.a.toNat * 65 + e.b.toNat) = true ↔ ∃ g ∈ l, g.a = e.a ∧ g.b = e.b := by
  rw [h]
  constructor
  · rintro ⟨g, hg, hp⟩
    have h1 := hl g hg
    have a1 := h1.1.1; have a2 := h1.2.1; have a3 := h1.2.2; have b1 := he.1.1; have b2 := he.2.1; have b3 := he.2.2
    exact ⟨g, hg, by omega, by omega⟩
  · rintro ⟨g, hg, h1, h2⟩
    exact ⟨g, hg, by rw [h1, h2]⟩
theorem apart_snoc {l : List E} {e : E} : Apart (l ++ [e]) ↔ Apart l ∧ ¬ ∃ g ∈ l, g.a = e.a ∧ g.b = e.b := by
  unfold Apart
  rw [List.pairwise_append]
  constructor
  · rintro ⟨h1, _, h2⟩
    exact ⟨h1, fun ⟨g, hg, h⟩ => h2 g hg e (by simp) h⟩
  · rintro ⟨h1, h2⟩
    exact ⟨h1, by simp, fun g hg f hf h => h2 ⟨g, hg, by rw [List.mem_singleton.1 hf] at h; exact h⟩⟩
theorem check26 {s : AHeap} {A : Option Addr} {n c : Nat} {on : Option Nat} {l : List E} (h : EA s (.slice A n c) on l) (hn : n ≤ 512) :
    ACall Try.prog 26 [.slice A n c] s (.int .i64 (ckE l)) s := by
  have hnl : n = l.length := by obtain ⟨_, _, e⟩ := h.isl; injection e
  refine ACall.make Try.func26 rfl (by kernel_rfl) (by decide) rfl (fun N hN => ?_)
  have hT : Top N s := hN
  (repeat' (first | (apply Ab.K.ev; exact ev_) | (apply Ab.K.aops; first | (apply Xg.s; constructor) | (apply Ab.S.guardU; (case hd => rfl); (case hb => (exact ev_; done))) | apply Ab.S.guardG) | (apply Ab.K.aop; first | (apply Og.s; constructor)) | (apply Ab.K.gk; first | (apply Xg.s; constructor) | (apply Ab.gY; case hw => assumption) | (apply Ab.gNT; case hw => assumption) | (apply Ab.gNF; case hw => assumption) | ((first | apply Ab.gD | apply Ab.gDN); all_goals (intro _ _; (first | contradiction | (exfalso; omega) | skip)))) | (apply Ab.K.awp; first | (apply Xg.s; constructor)) | (apply Ab.K.at_; exact at_) | (apply Ab.K.acall; first | assumption | exact c9) | (apply Ab.Rg.mk; omega) | (apply Ab.Lt.mk; first | decide | (simp; done) | (simp; omega) | fail) | (apply Ab.Get.mk; first | rfl | (rw [Int.toNat_natCast]; first | exact g0 | exact g1)) | (apply Ab.Nm.mk; first | exact nrm_) | (apply Xg.s; constructor) | (apply Ab.asm; assumption) | rfl | infer_instance | decide))
  refine AWp.loop (fun kk tm s1 => ∃ i : Nat, Ev tm (.tmp 0) (.slice A n c) ∧ Ev tm (.tmp 3) (.int .i64 i) ∧ s1 = s ∧ i ≤ n ∧ (∀ j, j < i → ∀ e, l[j]? = some e → e.may) ∧ kk = n - i) n ?_ ?_
  · exact ⟨0, by exact ev_, by exact ev_, rfl, by omega, fun j hj => by omega, rfl⟩
  rintro k tm s1 ⟨i, ev0, ev3, rfl, hi, hall, hk⟩
  by_cases hlt : i < n
  · have hi' : l[i]? = some (l[i]'(by omega)) := List.getElem?_eq_getElem (by omega)
    obtain ⟨e, hee⟩ : ∃ e, e = l[i]'(by omega) := ⟨_, rfl⟩
    rw [← hee] at hi'
    obtain ⟨q, rw1, cs, rfl, hon, _, hq, _, hE, _⟩ := h.elt hi'
    have c20 : ∀ s : AHeap, ACall Try.prog 20 [.agg (ec e).toArray] s (.bool (decide e.may)) s := fun s => may20


    by_cases hm : e.may
    · rw [decide_eq_true hm] at c20
      (repeat' (first | (apply Ab.K.ev; exact ev_) | (apply Ab.K.aops; first | (apply Xg.s; constructor) | (apply Ab.S.guardU; (case hd => rfl); (case hb => (exact ev_; done))) | apply Ab.S.guardG) | (apply Ab.K.aop; first | (apply Og.s; constructor)) | (apply Ab.K.gk; first | (apply Xg.s; constructor) | (apply Ab.gY; case hw => assumption) | (apply Ab.gNT; case hw => assumption) | (apply Ab.gNF; case hw => assumption) | ((first | apply Ab.gD | apply Ab.gDN); all_goals (intro _ _; (first | contradiction | (exfalso; omega) | skip)))) | (apply Ab.K.awp; first | (apply Xg.s; constructor)) | (apply Ab.K.at_; exact at_) | (apply Ab.K.acall; first | assumption | exact c20 _) | (apply Ab.Rg.mk; omega) | (apply Ab.Lt.mk; first | decide | (simp; done) | (simp; omega) | omega) | (apply Ab.Get.mk; first | rfl | (rw [Int.toNat_natCast]; first | exact g0 | exact g1)) | (apply Ab.Nm.mk; first | exact Eq.trans (congrArg (fun z => List.take _ (List.drop (z * 3) cs)) (Int.toNat_natCast i)) hE | exact nrm_) | (apply Xg.s; constructor) | (apply Ab.asm; assumption) | rfl | infer_instance | decide))
      exact X.roundN (n - (i + 1)) (by omega) ⟨i + 1, by exact ev_, by exact ev_, rfl, by omega, fun j hj f hf => (by
        by_cases hji : j = i
        · subst hji
          rw [hi'] at hf
          obtain rfl := Option.some.inj hf
          exact hm
        · exact hall j (by omega) f hf), rfl⟩
    · rw [decide_eq_false hm] at c20
      rw [ck_n fun g => hm (g.1 e (List.mem_of_getElem? hi'))]
      (repeat' (first | (apply Ab.K.ev; exact ev_) | (apply Ab.K.aops; first | (apply Xg.s; constructor) | (apply Ab.S.guardU; (case hd => rfl); (case hb => (exact ev_; done))) | apply Ab.S.guardG) | (apply Ab.K.aop; first | (apply Og.s; constructor)) | (apply Ab.K.gk; first | (apply Xg.s; constructor) | (apply Ab.gY; case hw => assumption) | (apply Ab.gNT; case hw => assumption) | (apply Ab.gNF; case hw => assumption) | ((first | apply Ab.gD | apply Ab.gDN); all_goals (intro _ _; (first | contradiction | (exfalso; omega) | skip)))) | (apply Ab.K.awp; first | (apply Xg.s; constructor)) | (apply Ab.K.at_; exact at_) | (apply Ab.K.acall; first | assumption | exact c20 _) | (apply Ab.Rg.mk; omega) | (apply Ab.Lt.mk; first | decide | (simp; done) | (simp; omega) | omega) | (apply Ab.Get.mk; first | rfl | (rw [Int.toNat_natCast]; first | exact g0 | exact g1)) | (apply Ab.Nm.mk; first | exact Eq.trans (congrArg (fun z => List.take _ (List.drop (z * 3) cs)) (Int.toNat_natCast i)) hE | exact nrm_) | (apply Xg.s; constructor) | (apply Ab.asm; assumption) | rfl | infer_instance | decide))
      all_goals ((first | apply RetQ.ret | apply RetQ.normal); (case he => exact evr_); (case hg => rfl))
      all_goals first | rfl | exact Keeps.self trivial
  obtain rfl : i = n := by omega
  have hmay : ∀ e ∈ l, e.may := fun e he => by
    obtain ⟨j, hj, hje⟩ := List.mem_iff_getElem.1 he
    exact hall j (by omega) e (by rw [List.getElem?_eq_getElem hj, hje])
  have hnod : ∀ e ∈ l, TP.Node e.a ∧ TP.Node e.b := fun e he => ⟨(hmay e he).1, (hmay e he).2.1⟩
  clear hall hk


  (repeat' (first | (apply Ab.K.ev; exact ev_) | (apply Ab.K.aops; first | (apply Xg.s; constructor) | (apply Ab.S.guardU; (case hd => rfl); (case hb => (exact ev_; done))) | apply Ab.S.guardG) | (apply Ab.K.aop; first | (first | (apply Ab.O.allocA (l := bsn 4225 fun _ => false) (N + 0); (case hid => exact frees_); (case hp => exact bsn_pl)) | (apply Ab.Qz.br; (case hz => exact bsn_pl)) | (apply Ab.O.storeAll; (case hz => rfl); (case hx => exact ev_); (case hy => exact ev_); (case hs => exact at_); (case hl => exact bsn_length); (case hc => exact bsn_length))) | (apply Og.s; constructor)) | (apply Ab.K.gk; first | (apply Xg.s; constructor) | (apply Ab.gY; case hw => assumption) | (apply Ab.gNT; case hw => assumption) | (apply Ab.gNF; case hw => assumption) | ((first | apply Ab.gD | apply Ab.gDN); all_goals (intro _ _; (first | contradiction | (exfalso; omega) | skip)))) | (apply Ab.K.awp; first | (apply Xg.s; constructor)) | (apply Ab.K.at_; exact at_) | (apply Ab.K.acall; first | assumption | fail) | (apply Ab.Rg.mk; omega) | (apply Ab.Lt.mk; first | decide | (simp; done) | (simp; omega) | omega) | (apply Ab.Get.mk; first | rfl | (rw [Int.toNat_natCast]; first | exact g0 | exact g1)) | (apply Ab.Nm.mk; first | exact nrm_) | (apply Xg.s; constructor) | (apply Ab.asm; assumption) | rfl | infer_instance | decide))
  refine AWp.loop (fun kk tm s2 => ∃ (j : Nat) (f : Nat → Bool), Ev tm (.tmp 0) (.slice A i c) ∧ Ev tm (.tmp 4) (.pointer (some ⟨N + 0, 0, none⟩)) ∧ Ev tm (.tmp 5) (.int .i64 j) ∧ At s2 (N + 0) (.cells true 1 (bsn 4225 f)) ∧ Fr s2 s1 [] ∧ Prs (l.take j) f ∧ Apart (l.take j) ∧ j ≤ i ∧ kk = i - j) i ?_ ?_
  · exact ⟨0, _, by exact ev_, by exact ev_, by exact ev_, by exact at_, by exact fr_, Prs.nil, List.Pairwise.nil, by omega, rfl⟩
  clear ev0 ev3
  rintro kk tm s2 ⟨j, f, e0, e4, e5, a4, F, hp, hap, hj, hkk⟩
  by_cases hlt : j < i
  · have hi' : l[j]? = some (l[j]'(by omega)) := List.getElem?_eq_getElem (by omega)
    obtain ⟨e, hee⟩ : ∃ e, e = l[j]'(by omega) := ⟨_, rfl⟩
    rw [← hee] at hi'
    have htk : l.take (j + 1) = l.take j ++ [e] := by rw [List.take_add_one, hi']; rfl
    have hne := hnod e (List.mem_of_getElem? hi')
    have n1 : 1 ≤ e.a ∧ e.a ≤ 64 := hne.1
    have n2 : 1 ≤ e.b ∧ e.b ≤ 64 := hne.2
    obtain ⟨q, rw1, cs, rfl, hon, _, hq, _, _, g0, g1, _⟩ := (h.fr F).elt hi'
    have hqN := h.lt hT q hon
    have ga := bsn_get (n := 4225) (f := f) (i := e.a.toNat * 65 + e.b.toNat * 1) (by omega)
    have hmet := hp.met (e := e) (fun g hg => hnod g (List.mem_of_mem_take hg)) hne
    have hst := bsn_set (n := 4225) (f := f) (i := e.a.toNat * 65 + e.b.toNat * 1) (by omega)




    cases hfb : f (e.a.toNat * 65 + e.b.toNat * 1)
    · rw [hfb] at ga
      rw [Nat.mul_one] at hfb
      have hap2 : Apart (l.take (j + 1)) := by rw [htk, apart_snoc]; exact ⟨hap, fun h => by rw [hmet.2 h] at hfb; cases hfb⟩
      (repeat' (first | (apply Ab.K.ev; exact ev_) | (apply Ab.K.aops; first | (apply Xg.s; constructor) | (apply Ab.S.guardU; (case hd => rfl); (case hb => (exact ev_; done))) | apply Ab.S.guardG) | (apply Ab.K.aop; first | (apply Og.s; constructor)) | (apply Ab.K.gk; first | (apply Xg.s; constructor) | (apply Ab.gY; case hw => assumption) | (apply Ab.gNT; case hw => assumption) | (apply Ab.gNF; case hw => assumption) | ((first | apply Ab.gD | apply Ab.gDN); all_goals (intro _ _; (first | contradiction | (exfalso; omega) | skip)))) | (apply Ab.K.aopsD; first | (apply Ab.D.q0t; (case hw => rfl); (case hot => rfl)) | (apply Ab.D.w1t; (case hw => rfl); (case hot => rfl)) | (apply Ab.D.q0; (case hw => rfl); intro _ _) | (apply Ab.D.w1n; (case hw => rfl); intro _ _) | (apply Ab.D.w2n; (case hw => rfl); intro _ _) | (apply Xg.s; constructor) | fail | apply Ab.D.guardG) | exact ⟨rfl, rfl⟩ | (apply Ab.K.awp; first | (apply AWp.draw (id := 10) [[], [], [0, 1], [0, 1, 2], [0, 1, 2, 3], [], [], [5, 6], [5, 6, 7], [5, 6, 7, 8], [0, 1, 2, 3, 4], [0, 1, 2, 3, 4, 5, 6, 7, 8, 9, 10], [0, 1, 2, 3, 4, 5, 6, 7, 8, 9, 10, 11]] [] (by kernel_rfl) (by kernel_rfl) (by simp [apartW, unordB, cC] <;> omega)) | (apply AWp.draw (id := 12) [[], [], [0, 1], [0, 1, 2], [0, 1, 2, 3], [], [], [5, 6], [5, 6, 7], [5, 6, 7, 8], [0, 1, 2, 3, 4], [0, 1, 2, 3, 4, 5, 6, 7, 8, 9, 10], [0, 1, 2, 3, 4, 5, 6, 7, 8, 9, 10, 11]] [(12, [N + 0])] (by kernel_rfl) (by kernel_rfl) (by simp [apartW, unordB, cC] <;> omega)) | (apply Xg.s; constructor)) | (apply Ab.K.at_; exact at_) | (apply Ab.K.acall; first | assumption | fail) | (apply Ab.Rg.mk; omega) | (apply Ab.Lt.mk; first | decide | (simp; done) | (simp; omega) | (rw [bsn_length]; omega)) | (apply Ab.Get.mk; first | rfl | first | exact ga | (rw [Int.toNat_natCast]; first | exact g0 | exact g1)) | (apply Ab.Nm.mk; first | exact hst | exact nrm_) | (apply Xg.s; constructor) | (apply Ab.asm; assumption) | rfl | infer_instance | decide))
      exact X.roundN (i - (j + 1)) (by omega) ⟨j + 1, _, by exact ev_, by exact ev_, by exact ev_, At.hit, by exact fr_, by rw [htk]; exact hp.add, hap2, by omega, rfl⟩
    · rw [hfb] at ga
      rw [Nat.mul_one] at hfb
      rw [ck_n fun g => (apart_snoc.1 (htk ▸ (g.2.sublist (List.take_sublist (j + 1) l)))).2 (hmet.1 hfb)]
      (repeat' (first | (apply Ab.K.ev; exact ev_) | (apply Ab.K.aops; first | (apply Xg.s; constructor) | (apply Ab.S.guardU; (case hd => rfl); (case hb => (exact ev_; done))) | apply Ab.S.guardG) | (apply Ab.K.aop; first | (apply Og.s; constructor)) | (apply Ab.K.gk; first | (apply Xg.s; constructor) | (apply Ab.gY; case hw => assumption) | (apply Ab.gNT; case hw => assumption) | (apply Ab.gNF; case hw => assumption) | ((first | apply Ab.gD | apply Ab.gDN); all_goals (intro _ _; (first | contradiction | (exfalso; omega) | skip)))) | (apply Ab.K.aopsD; first | (apply Ab.D.q0t; (case hw => rfl); (case hot => rfl)) | (apply Ab.D.w1t; (case hw => rfl); (case hot => rfl)) | (apply Ab.D.q0; (case hw => rfl); intro _ _) | (apply Ab.D.w1n; (case hw => rfl); intro _ _) | (apply Ab.D.w2n; (case hw => rfl); intro _ _) | (apply Xg.s; constructor) | fail | apply Ab.D.guardG) | exact ⟨rfl, rfl⟩ | (apply Ab.K.awp; first | (apply AWp.draw (id := 10) [[], [], [0, 1], [0, 1, 2], [0, 1, 2, 3], [], [], [5, 6], [5, 6, 7], [5, 6, 7, 8], [0, 1, 2, 3, 4], [0, 1, 2, 3, 4, 5, 6, 7, 8, 9, 10], [0, 1, 2, 3, 4, 5, 6, 7, 8, 9, 10, 11]] [] (by kernel_rfl) (by kernel_rfl) (by simp [apartW, unordB, cC] <;> omega)) | (apply AWp.draw (id := 12) [[], [], [0, 1], [0, 1, 2], [0, 1, 2, 3], [], [], [5, 6], [5, 6, 7], [5, 6, 7, 8], [0, 1, 2, 3, 4], [0, 1, 2, 3, 4, 5, 6, 7, 8, 9, 10], [0, 1, 2, 3, 4, 5, 6, 7, 8, 9, 10, 11]] [(12, [N + 0])] (by kernel_rfl) (by kernel_rfl) (by simp [apartW, unordB, cC] <;> omega)) | (apply Xg.s; constructor)) | (apply Ab.K.at_; exact at_) | (apply Ab.K.acall; first | assumption | fail) | (apply Ab.Rg.mk; omega) | (apply Ab.Lt.mk; first | decide | (simp; done) | (simp; omega) | (rw [bsn_length]; omega)) | (apply Ab.Get.mk; first | rfl | first | exact ga | (rw [Int.toNat_natCast]; first | exact g0 | exact g1)) | (apply Ab.Nm.mk; first | exact hst | exact nrm_) | (apply Xg.s; constructor) | (apply Ab.asm; assumption) | rfl | infer_instance | decide))
      all_goals ((first | apply RetQ.ret | apply RetQ.normal); (case he => exact evr_); (case hg => rfl))
      all_goals first | rfl | (apply Keeps.fr; (case h => exact fr_); (case hv => exact plR.nm rfl))
  · obtain rfl : j = i := by omega
    rw [hnl, List.take_length] at hap
    rw [ck_y ⟨hmay, hap⟩]
    (repeat' (first | (apply Ab.K.ev; exact ev_) | (apply Ab.K.aops; first | (apply Xg.s; constructor) | (apply Ab.S.guardU; (case hd => rfl); (case hb => (exact ev_; done))) | apply Ab.S.guardG) | (apply Ab.K.aop; first | (apply Og.s; constructor)) | (apply Ab.K.gk; first | (apply Xg.s; constructor) | (apply Ab.gY; case hw => assumption) | (apply Ab.gNT; case hw => assumption) | (apply Ab.gNF; case hw => assumption) | ((first | apply Ab.gD | apply Ab.gDN); all_goals (intro _ _; (first | contradiction | (exfalso; omega) | skip)))) | (apply Ab.K.awp; first | (apply Xg.s; constructor)) | (apply Ab.K.at_; exact at_) | (apply Ab.K.acall; first | assumption | fail) | (apply Ab.Rg.mk; omega) | (apply Ab.Lt.mk; first | decide | (simp; done) | (simp; omega) | (rw [bsn_length]; omega)) | (apply Ab.Get.mk; first | rfl | first | exact ga | (rw [Int.toNat_natCast]; first | exact g0 | exact g1)) | (apply Ab.Nm.mk; first | exact hst | exact nrm_) | (apply Xg.s; constructor) | (apply Ab.asm; assumption) | rfl | infer_instance | decide))
    all_goals ((first | apply RetQ.ret | apply RetQ.normal); (case he => exact evr_); (case hg => rfl))
    all_goals first | rfl | (apply Keeps.fr; (case h => exact fr_); (case hv => exact plR.nm rfl))
end Go.Proofs.Ytnbgeodignljfaa
