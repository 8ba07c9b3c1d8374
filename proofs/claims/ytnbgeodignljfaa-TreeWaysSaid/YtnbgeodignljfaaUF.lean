/- trees: the program's heaviest edge. -/
import Derived.Test.YtnbgeodignljfaaUA
import Derived.Test.YtnbgeodignljfaaTO
import Derived.Test.YtnbgeodignljfaaAbG
namespace Go.Proofs.Ytnbgeodignljfaa
set_option linter.unusedVariables false
set_option linter.unusedSimpArgs false
set_option linter.unusedSectionVars false
open Go.RowKit Ab TP
theorem TP.Top1.ex {L : List E} (h : L ≠ []) : ∃ g, Top1 L g := by
  have : ∀ (k : Nat), k < L.length → ∃ g, Top1 (L.take (k + 1)) g := fun k => by
    induction k with
    | zero =>
      intro hk
      match L, h with
      | e :: r, _ => exact ⟨e, Top1.one e⟩
    | succ k ih =>
      intro hk
      obtain ⟨g, hg⟩ := ih (by omega)
      have htk : L.take (k + 1 + 1) = L.take (k + 1) ++ [L[k + 1]'hk] := by rw [List.take_add_one, List.getElem?_eq_getElem hk]; rfl
      rw [htk]
      by_cases hl : less g (L[k + 1]'hk)
      · exact ⟨_, hg.up hl⟩
      · exact ⟨_, hg.stay hl⟩
  have hp := List.length_pos_iff.2 h
  obtain ⟨g, hg⟩ := this (L.length - 1) (by omega)
  rw [show L.length - 1 + 1 = L.length from by omega, List.take_length] at hg
  exact ⟨g, hg⟩
theorem TP.Top1.congr {L L' : List E} {g : E} (h : Top1 L' g) (hm : ∀ e, e ∈ L ↔ e ∈ L') : Top1 L g := ⟨(hm g).2 h.1, fun e he => h.2 e ((hm e).1 he)⟩
/-- The edges of a way. -/
noncomputable def onP (l : List E) (p : List Int) : List E := open Classical in l.filter fun e => decide (OnP p e)
theorem onP_mem {l : List E} {p : List Int} {e : E} : e ∈ onP l p ↔ e ∈ l ∧ OnP p e := by unfold onP; simp [List.mem_filter]
theorem onP_top {l : List E} {a b : Int} {p : List Int} (hw : TP.Way l a b p) (hab : a ≠ b) : ∃ g, Top1 (onP l p) g := by
  have hp2 : 2 ≤ p.length := by
    cases hw with
    | one => exact absurd rfl hab
    | cons _ _ r => obtain ⟨t, ht⟩ := r.head; rw [ht]; simp
  obtain ⟨x, hx⟩ : ∃ x, p[0]? = some x := ⟨_, List.getElem?_eq_getElem (by omega)⟩
  obtain ⟨y, hy⟩ : ∃ y, p[0 + 1]? = some y := ⟨_, List.getElem?_eq_getElem (by omega)⟩
  obtain ⟨e, he, _, ho⟩ := hw.edge hx hy
  exact TP.Top1.ex (List.ne_nil_of_mem (onP_mem.2 ⟨he, ho⟩))
attribute [local irreducible] AOps AOpsD AOp AWp put nargs AHeap.set At Free ACall ACallE thenQ blockQ roundQ RetQ RetE Src bsn Gr
theorem max40 {s : AHeap} {q n c : Nat} {on : Option Nat} {l : List E} {g : E} (h : EA s (.slice (some ⟨q, 0, none⟩) n c) on l) (hg : Top1 l g) (hn : n ≤ 512) :
    ACall Try.prog 40 [.slice (some ⟨q, 0, none⟩) n c, .func (.func 41) #[] #[]] s (.agg (ec g).toArray) s := by
  have hnl : n = l.length := by obtain ⟨_, _, e⟩ := h.isl; injection e
  have hpos : 0 < l.length := List.length_pos_of_mem hg.1
  refine ACall.make Try.func40 rfl (by kernel_rfl) (by decide) rfl (fun N hN => ?_)
  have hT : Top N s := hN
  obtain ⟨f0, hf0⟩ : ∃ f0, l[0]? = some f0 := ⟨_, List.getElem?_eq_getElem hpos⟩
  obtain ⟨rw1, cs, hq, _⟩ := h.cells
  have hqN := hT.lt hq
  obtain ⟨_, _, _, hqq, _, _, hq2, _, hE0, _⟩ := h.elt hf0
  obtain rfl : q = _ := by have := Option.some.inj hqq; injection this
  have e2 := hq.eq.symm.trans hq2.eq
  injection e2 with e2
  injection e2 with _ _ e2
  subst e2
  have hz : ([.int .i64 0, .int .i64 0, .int .i64 0] : List Value) = ec ⟨0, 0, 0⟩ := rfl


  (repeat' (first | (apply Ab.K.ev; exact ev_) | (apply Ab.K.aops; first | (apply Xg.s; constructor) | (apply Ab.S.guardU; (case hd => rfl); (case hb => (exact ev_; done))) | apply Ab.S.guardG) | (apply Ab.K.aop; first | (first | (apply Ab.O.allocA (l := ec ⟨0, 0, 0⟩) (N + 0); (case hid => exact frees_); (case hp => rfl)) | (apply Ab.O.allocA (l := ec ⟨0, 0, 0⟩) (N + 1); (case hid => exact frees_); (case hp => rfl)) | (apply Ab.O.storeAll; (case hz => rfl); (case hx => exact ev_); (case hy => exact ev_); (case hs => exact at_); (case hl => rfl); (case hc => rfl))) | (apply Og.s; constructor)) | (apply Ab.K.gk; first | (apply Xg.s; constructor) | (apply Ab.gY; case hw => assumption) | (apply Ab.gNT; case hw => assumption) | (apply Ab.gNF; case hw => assumption) | ((first | apply Ab.gD | apply Ab.gDN); all_goals (intro _ _; (first | contradiction | (exfalso; omega) | skip)))) | (apply Ab.K.awp; first | (apply Xg.s; constructor)) | (apply Ab.K.at_; exact at_) | (apply Ab.K.acall; first | assumption | fail) | (apply Ab.Rg.mk; omega) | (apply Ab.Lt.mk; first | decide | (simp; done) | (simp; omega) | first | omega | (show (0 + 3 : Nat) < 3 + 1; decide)) | (apply Ab.Get.mk; first | rfl | fail) | (apply Ab.Nm.mk; first | first | exact hE0 | exact Eq.trans (congrArg (fun z => List.take _ (List.drop (z * 3) cs)) (Int.toNat_natCast i)) hE | exact (show ((ec e).drop 0).take 3 = ec e from rfl) | exact nrm_) | (apply Xg.s; constructor) | (apply Ab.asm; assumption) | rfl | infer_instance | decide))
  refine AWp.loop (fun kk tm s1 => ∃ (i : Nat) (e : E), Ev tm (.tmp 0) (.slice (some ⟨q, 0, none⟩) n c) ∧ Ev tm (.tmp 1) (.func (.func 41) #[] #[]) ∧ Ev tm (.tmp 4) (.pointer (some ⟨N + 0, 0, none⟩)) ∧ Ev tm (.tmp 5) (.pointer (some ⟨N + 1, 0, none⟩)) ∧ Ev tm (.tmp 6) (.int .i64 i) ∧ At s1 (N + 0) (.cells true 1 (ec ⟨0, 0, 0⟩)) ∧ At s1 (N + 1) (.cells true 1 (ec e)) ∧ Fr s1 s [] ∧ Top1 (l.take i) e ∧ i ≤ n ∧ kk = n - i) (n - 1) ?_ ?_
  · exact ⟨1, f0, by exact ev_, by exact ev_, by exact ev_, by exact ev_, by exact ev_, by exact at_, by exact at_, by exact fr_, (by
      match l, hf0 with
      | _ :: _, hf0 => obtain rfl := Option.some.inj hf0; exact Top1.one _), by omega, rfl⟩
  clear hE0 hq2 hqq
  rintro kk tm s1 ⟨i, e, e0, e1, e4, e5, e6, a4, a5, F, hi1, hi, hkk⟩
  by_cases hin : i < n
  · have hi' : l[i]? = some (l[i]'(by omega)) := List.getElem?_eq_getElem (by omega)
    obtain ⟨f, hff⟩ : ∃ f, f = l[i]'(by omega) := ⟨_, rfl⟩
    rw [← hff] at hi'
    have htk : l.take (i + 1) = l.take i ++ [f] := by rw [List.take_add_one, hi']; rfl
    obtain ⟨q2, rw2, cs, hqq, _, _, hq, _, hE, _⟩ := (h.fr F).elt hi'
    obtain rfl : q = q2 := by have := Option.some.inj hqq; injection this
    have c41 : ∀ s : AHeap, ACall Try.prog 41 [.agg (ec f).toArray, .agg (ec e).toArray] s (.int .i64 (ord f e)) s := fun s => compare41
    have hop := ord_pos (e := f) (f := e)

    by_cases hless : less e f
    · have hgt : ord f e > 0 := hop.2 hless
      (repeat' (first | (apply Ab.K.ev; exact ev_) | (apply Ab.K.aops; first | (apply Xg.s; constructor) | (apply Ab.S.guardU; (case hd => rfl); (case hb => (exact ev_; done))) | apply Ab.S.guardG) | (apply Ab.K.aop; first | (first | (apply Ab.O.call; (case hf => exact ev_); (case ha => exact evs_); (case hc => exact c41 _)) | (apply Ab.O.storeAll; (case hz => rfl); (case hx => exact ev_); (case hy => exact ev_); (case hs => exact at_); (case hl => rfl); (case hc => rfl))) | (apply Og.s; constructor)) | (apply Ab.K.gk; first | (apply Xg.s; constructor) | (apply Ab.gY; case hw => assumption) | (apply Ab.gNT; case hw => assumption) | (apply Ab.gNF; case hw => assumption) | ((first | apply Ab.gD | apply Ab.gDN); all_goals (intro _ _; (first | contradiction | (exfalso; omega) | skip)))) | (apply Ab.K.aopsD; first | (apply Ab.D.q0t; (case hw => rfl); (case hot => rfl)) | (apply Ab.D.w1t; (case hw => rfl); (case hot => rfl)) | (apply Ab.D.q0; (case hw => rfl); intro _ _) | (apply Ab.D.w1n; (case hw => rfl); intro _ _) | (apply Ab.D.w2n; (case hw => rfl); intro _ _) | (apply Xg.s; constructor) | fail | apply Ab.D.guardG) | exact ⟨rfl, rfl⟩ | (apply Ab.K.awp; first | (apply AWp.draw (id := 7) [[], [], [], [1, 2], [1, 2, 3], [], [0, 1, 2, 3, 4, 5], [0, 1, 2, 3, 4, 5, 6]] [] (by kernel_rfl) (by kernel_rfl) (by simp [apartW, unordB, cC] <;> omega)) | (apply Xg.s; constructor)) | (apply Ab.K.at_; exact at_) | (apply Ab.K.acall; first | assumption | fail) | (apply Ab.Rg.mk; omega) | (apply Ab.Lt.mk; first | decide | (simp; done) | (simp; omega) | first | omega | (show (0 + 3 : Nat) < 3 + 1; decide)) | (apply Ab.Get.mk; first | rfl | fail) | (apply Ab.Nm.mk; first | first | exact hE0 | exact Eq.trans (congrArg (fun z => List.take _ (List.drop (z * 3) cs)) (Int.toNat_natCast i)) hE | exact (show ((ec e).drop 0).take 3 = ec e from rfl) | exact nrm_) | (apply Xg.s; constructor) | (apply Ab.asm; assumption) | rfl | infer_instance | decide))
      exact X.roundN (n - (i + 1)) (by omega) ⟨i + 1, f, by exact ev_, by exact ev_, by exact ev_, by exact ev_, by exact ev_, by exact at_, At.hit, by exact fr_, (by rw [htk]; exact hi1.up hless), by omega, rfl⟩
    · have hgt : ¬ ord f e > 0 := fun h => hless (hop.1 h)
      (repeat' (first | (apply Ab.K.ev; exact ev_) | (apply Ab.K.aops; first | (apply Xg.s; constructor) | (apply Ab.S.guardU; (case hd => rfl); (case hb => (exact ev_; done))) | apply Ab.S.guardG) | (apply Ab.K.aop; first | (first | (apply Ab.O.call; (case hf => exact ev_); (case ha => exact evs_); (case hc => exact c41 _)) | (apply Ab.O.storeAll; (case hz => rfl); (case hx => exact ev_); (case hy => exact ev_); (case hs => exact at_); (case hl => rfl); (case hc => rfl))) | (apply Og.s; constructor)) | (apply Ab.K.gk; first | (apply Xg.s; constructor) | (apply Ab.gY; case hw => assumption) | (apply Ab.gNT; case hw => assumption) | (apply Ab.gNF; case hw => assumption) | ((first | apply Ab.gD | apply Ab.gDN); all_goals (intro _ _; (first | contradiction | (exfalso; omega) | skip)))) | (apply Ab.K.aopsD; first | (apply Ab.D.q0t; (case hw => rfl); (case hot => rfl)) | (apply Ab.D.w1t; (case hw => rfl); (case hot => rfl)) | (apply Ab.D.q0; (case hw => rfl); intro _ _) | (apply Ab.D.w1n; (case hw => rfl); intro _ _) | (apply Ab.D.w2n; (case hw => rfl); intro _ _) | (apply Xg.s; constructor) | fail | apply Ab.D.guardG) | exact ⟨rfl, rfl⟩ | (apply Ab.K.awp; first | (apply AWp.draw (id := 7) [[], [], [], [1, 2], [1, 2, 3], [], [0, 1, 2, 3, 4, 5], [0, 1, 2, 3, 4, 5, 6]] [] (by kernel_rfl) (by kernel_rfl) (by simp [apartW, unordB, cC] <;> omega)) | (apply Xg.s; constructor)) | (apply Ab.K.at_; exact at_) | (apply Ab.K.acall; first | assumption | fail) | (apply Ab.Rg.mk; omega) | (apply Ab.Lt.mk; first | decide | (simp; done) | (simp; omega) | first | omega | (show (0 + 3 : Nat) < 3 + 1; decide)) | (apply Ab.Get.mk; first | rfl | fail) | (apply Ab.Nm.mk; first | first | exact hE0 | exact Eq.trans (congrArg (fun z => List.take _ (List.drop (z * 3) cs)) (Int.toNat_natCast i)) hE | exact (show ((ec e).drop 0).take 3 = ec e from rfl) | exact nrm_) | (apply Xg.s; constructor) | (apply Ab.asm; assumption) | rfl | infer_instance | decide))
      exact X.roundN (n - (i + 1)) (by omega) ⟨i + 1, e, by exact ev_, by exact ev_, by exact ev_, by exact ev_, by exact ev_, a4, a5, F, (by rw [htk]; exact hi1.stay hless), by omega, rfl⟩
  · obtain rfl : i = n := by omega
    have he : Top1 l e := by rwa [hnl, List.take_length] at hi1
    obtain rfl : e = g := he.uniq (fun _ => Iff.rfl) hg
    (repeat' (first | (apply Ab.K.ev; exact ev_) | (apply Ab.K.aops; first | (apply Xg.s; constructor) | (apply Ab.S.guardU; (case hd => rfl); (case hb => (exact ev_; done))) | apply Ab.S.guardG) | (apply Ab.K.aop; first | (first | (apply Ab.O.call; (case hf => exact ev_); (case ha => exact evs_); (case hc => exact c41 _)) | (apply Ab.O.storeAll; (case hz => rfl); (case hx => exact ev_); (case hy => exact ev_); (case hs => exact at_); (case hl => rfl); (case hc => rfl))) | (apply Og.s; constructor)) | (apply Ab.K.gk; first | (apply Xg.s; constructor) | (apply Ab.gY; case hw => assumption) | (apply Ab.gNT; case hw => assumption) | (apply Ab.gNF; case hw => assumption) | ((first | apply Ab.gD | apply Ab.gDN); all_goals (intro _ _; (first | contradiction | (exfalso; omega) | skip)))) | (apply Ab.K.awp; first | (apply Xg.s; constructor)) | (apply Ab.K.at_; exact at_) | (apply Ab.K.acall; first | assumption | fail) | (apply Ab.Rg.mk; omega) | (apply Ab.Lt.mk; first | decide | (simp; done) | (simp; omega) | first | omega | (show (0 + 3 : Nat) < 3 + 1; decide)) | (apply Ab.Get.mk; first | rfl | fail) | (apply Ab.Nm.mk; first | first | exact hE0 | exact Eq.trans (congrArg (fun z => List.take _ (List.drop (z * 3) cs)) (Int.toNat_natCast i)) hE | exact (show ((ec e).drop 0).take 3 = ec e from rfl) | exact nrm_) | (apply Xg.s; constructor) | (apply Ab.asm; assumption) | rfl | infer_instance | decide))
    all_goals ((first | apply RetQ.ret | apply RetQ.normal); (case he => exact evr_); (case hg => rfl))
    all_goals first | rfl | (apply Keeps.fr; (case h => exact fr_); (case hv => exact plR.nm rfl))

theorem heaviest39 {s : AHeap} {W I q : Nat} {rw1 : Bool} {p : List Int} {e : E} {i : Nat} {x y : Int} (hp : p.length ≤ 64) (hw : At s W (.cells true 1 [.slice (some ⟨q, 0, none⟩) p.length p.length])) (hI : At s I (.cells true 1 [.int .i64 i])) (hq : At s q (.cells rw1 1 (ints p))) (hx : p[i]? = some x) (hy : p[i + 1]? = some y) :
    ACall Try.prog 39 (.agg (ec e).toArray :: #[Value.pointer (some ⟨W, 0, none⟩), .pointer (some ⟨I, 0, none⟩)].toList) s (.bool (decide (other e x = y))) s := by
  refine ACall.make Try.func39 rfl (by kernel_rfl) (by decide) rfl (fun N hN => ?_)
  have hT : Top N s := hN
  have hWN := hT.lt hw
  have hIN := hT.lt hI
  have hqN := hT.lt hq
  have hyl := (List.getElem?_eq_some_iff.1 hy).1
  have gx := ints_get hx
  have gy := ints_get hy
  have c36 : ∀ s : AHeap, ACall Try.prog 36 [.agg (ec e).toArray, .int .i64 x] s (.int .i64 (other e x)) s := fun s => other36





  (repeat' (first | (apply Ab.K.ev; exact ev_) | (apply Ab.K.aops; first | (apply Xg.s; constructor) | (apply Ab.S.guardU; (case hd => rfl); (case hb => (exact ev_; done))) | apply Ab.S.guardG) | (apply Ab.K.aop; first | (apply Ab.O.boxA (N + 0); (case hx => exact ev_); (case hid => exact frees_)) | (apply Og.s; constructor)) | (apply Ab.K.gk; first | (apply Xg.s; constructor) | (apply Ab.gY; case hw => assumption) | (apply Ab.gNT; case hw => assumption) | (apply Ab.gNF; case hw => assumption) | ((first | apply Ab.gD | apply Ab.gDN); all_goals (intro _ _; (first | contradiction | (exfalso; omega) | skip)))) | (apply Ab.K.aopsD; first | (apply Ab.D.q0t; (case hw => rfl); (case hot => rfl)) | (apply Ab.D.w1t; (case hw => rfl); (case hot => rfl)) | (apply Ab.D.q0; (case hw => rfl); intro _ _) | (apply Ab.D.w1n; (case hw => rfl); intro _ _) | (apply Ab.D.w2n; (case hw => rfl); intro _ _) | (apply Xg.s; constructor) | fail | apply Ab.D.guardG) | exact ⟨rfl, rfl⟩ | (apply Ab.K.awp; first | (apply AWp.draw (id := 1) [[], [], [], [1, 2], [1, 2, 3], [0, 1, 2, 3, 4], [], [], [7], [6, 7, 8], [6, 7, 8, 9], [0, 1, 2, 3, 4, 5, 6, 7, 8, 9, 10], [0, 1, 2, 3, 4, 5, 6, 7, 8, 9, 10, 11]] [] (by kernel_rfl) (by kernel_rfl) (by simp [apartW, unordB, cC] <;> omega)) | (apply Xg.s; constructor)) | (apply Ab.K.at_; exact at_) | (apply Ab.K.acall; first | assumption | exact c36 _) | (apply Ab.Rg.mk; omega) | (apply Ab.Lt.mk; first | decide | (simp; done) | (simp; omega) | first | omega | (show (0 + 3 : Nat) < 3 + 1; decide)) | (apply Ab.Get.mk; first | rfl | first | rfl | (rw [Int.toNat_natCast]; exact gx) | (rw [show ((i : Int) + 1).toNat = i + 1 from by omega]; exact gy)) | (apply Ab.Nm.mk; first | first | exact (show ((ec e).drop 0).take 3 = ec e from rfl) | exact nrm_) | (apply Xg.s; constructor) | (apply Ab.asm; assumption) | rfl | infer_instance | decide))
  all_goals ((first | apply RetQ.ret | apply RetQ.normal); (case he => exact evr_); (case hg => rfl))
  all_goals first | rfl | (apply Keeps.fr; (case h => exact fr_); (case hv => exact plR.nm rfl))


theorem heaviest21_err {s : AHeap} {v : Value} {x a b : Int} (hx : x ≠ 0) (c11 : ∀ s1 : AHeap, Fr s1 s [] → ACall Try.prog 11 [v, .int .i64 a, .int .i64 b] s1 (.tuple #[.slice none 0 0, .int .i64 x]) s1) :
    ACall Try.prog 21 [v, .int .i64 a, .int .i64 b] s (.tuple #[.agg (ec ⟨0, 0, 0⟩).toArray, .int .i64 x]) s := by
  refine ACall.make Try.func21 rfl (by kernel_rfl) (by decide) rfl (fun N hN => ?_)
  have hT : Top N s := hN
  have c1 := c11 (s.set N (.cells true 1 (ec ⟨0, 0, 0⟩))) (Fr.new (hT.free (Nat.le_refl _)) (Fr.refl _ _))

  (repeat' (first | (apply Ab.K.ev; exact ev_) | (apply Ab.K.aops; first | (apply Xg.s; constructor) | (apply Ab.S.guardU; (case hd => rfl); (case hb => (exact ev_; done))) | apply Ab.S.guardG) | (apply Ab.K.aop; first | (first | (apply Ab.O.allocA (l := ec ⟨0, 0, 0⟩) N; (case hid => exact frees_); (case hp => rfl)) | (apply Ab.O.alloc1 (N + 1); (case hid => exact frees_); (case hp => rfl)) | (apply Ab.O.storeAll; (case hz => rfl); (case hx => exact ev_); (case hy => exact ev_); (case hs => exact at_); (case hl => rfl); (case hc => rfl))) | (apply Og.s; constructor)) | (apply Ab.K.gk; first | (apply Xg.s; constructor) | (apply Ab.gY; case hw => assumption) | (apply Ab.gNT; case hw => assumption) | (apply Ab.gNF; case hw => assumption) | ((first | apply Ab.gD | apply Ab.gDN); all_goals (intro _ _; (first | contradiction | (exfalso; omega) | skip)))) | (apply Ab.K.awp; first | (apply Xg.s; constructor)) | (apply Ab.K.at_; exact at_) | (apply Ab.K.acall; first | assumption | exact c1) | (apply Ab.Rg.mk; omega) | (apply Ab.Lt.mk; first | decide | (simp; done) | (simp; omega) | first | omega | (show (0 + 3 : Nat) < 3 + 1; decide)) | (apply Ab.Get.mk; first | rfl | first | rfl | (rw [Int.toNat_natCast]; exact gx) | (rw [show ((i : Int) + 1).toNat = i + 1 from by omega]; exact gy)) | (apply Ab.Nm.mk; first | first | exact (show ((ec e).drop 0).take 3 = ec e from rfl) | exact nrm_) | (apply Xg.s; constructor) | (apply Ab.asm; assumption) | rfl | infer_instance | decide))
  all_goals ((first | apply RetQ.ret | apply RetQ.normal); (case he => exact evr_); (case hg => rfl))
  all_goals first | rfl | (apply Keeps.fr; (case h => exact fr_); (case hv => exact plR.nm rfl))

set_option maxHeartbeats 4000000 in
theorem heaviest21_one {s : AHeap} {A : Option Addr} {n c : Nat} {on : Option Nat} {l : List E} {a : Int} (h : EA s (.slice A n c) on l) (hn : n ≤ 512) (hok : wOk l a a = true) :
    ACall Try.prog 21 [.slice A n c, .int .i64 a, .int .i64 a] s (.tuple #[.agg (ec ⟨0, 0, 0⟩).toArray, .int .i64 4]) s := by
  refine ACall.make Try.func21 rfl (by kernel_rfl) (by decide) rfl (fun N hN => ?_)
  have hT : Top N s := hN
  have T1 : Top (N + 1) (s.set N (.cells true 1 (ec ⟨0, 0, 0⟩))) := hT.new
  have c1 := way11_yes (o := N + 1) (h.fr (Fr.new (hT.free (Nat.le_refl _)) (Fr.refl _ _) : Fr (s.set N (.cells true 1 (ec ⟨0, 0, 0⟩))) s [])) hn hok (.one a) (T1.none (Nat.le_refl _))

  (repeat' (first | (apply Ab.K.ev; exact ev_) | (apply Ab.K.aops; first | (apply Xg.s; constructor) | (apply Ab.S.guardU; (case hd => rfl); (case hb => (exact ev_; done))) | apply Ab.S.guardG) | (apply Ab.K.aop; first | (first | (apply Ab.O.allocA (l := ec ⟨0, 0, 0⟩) N; (case hid => exact frees_); (case hp => rfl)) | (apply Ab.O.alloc1 (N + 2); (case hid => exact frees_); (case hp => rfl)) | (apply Ab.O.storeAll; (case hz => rfl); (case hx => exact ev_); (case hy => exact ev_); (case hs => exact at_); (case hl => rfl); (case hc => rfl))) | (apply Og.s; constructor)) | (apply Ab.K.gk; first | (apply Xg.s; constructor) | (apply Ab.gY; case hw => assumption) | (apply Ab.gNT; case hw => assumption) | (apply Ab.gNF; case hw => assumption) | ((first | apply Ab.gD | apply Ab.gDN); all_goals (intro _ _; (first | contradiction | (exfalso; omega) | skip)))) | (apply Ab.K.awp; first | (apply Xg.s; constructor)) | (apply Ab.K.at_; exact at_) | (apply Ab.K.acall; first | assumption | exact c1) | (apply Ab.Rg.mk; omega) | (apply Ab.Lt.mk; first | decide | (simp; done) | (simp; omega) | first | omega | (show (0 + 3 : Nat) < 3 + 1; decide)) | (apply Ab.Get.mk; first | rfl | first | rfl | (rw [Int.toNat_natCast]; exact gx) | (rw [show ((i : Int) + 1).toNat = i + 1 from by omega]; exact gy)) | (apply Ab.Nm.mk; first | first | exact (show ((ec e).drop 0).take 3 = ec e from rfl) | exact nrm_) | (apply Xg.s; constructor) | (apply Ab.asm; assumption) | rfl | infer_instance | decide))
  all_goals ((first | apply RetQ.ret | apply RetQ.normal); (case he => exact evr_); (case hg => rfl))
  all_goals first | rfl | (apply Keeps.fr; (case h => exact fr_); (case hv => exact plR.nm rfl))

set_option maxHeartbeats 4000000 in
theorem heaviest21_yes {s : AHeap} {A : Option Addr} {n c : Nat} {on : Option Nat} {l : List E} {a b : Int} {p : List Int} {g : E} (h : EA s (.slice A n c) on l) (hn : n ≤ 512) (hok : wOk l a b = true) (hw : TP.Way l a b p) (hab : a ≠ b) (hgt : Top1 (onP l p) g) :
    ACall Try.prog 21 [.slice A n c, .int .i64 a, .int .i64 b] s (.tuple #[.agg (ec g).toArray, .int .i64 0]) s := by
  obtain ⟨hg, hf, ha, hb⟩ := wOk_iff.1 hok
  have hnl : n = l.length := by obtain ⟨_, _, e⟩ := h.isl; injection e
  have hp64 := hw.short (Good.node hg) ha
  have hnodes := hw.nodes (Good.node hg) ha
  have hp2 : 2 ≤ p.length := by
    cases hw with
    | one => exact absurd rfl hab
    | cons _ _ r => obtain ⟨t, ht⟩ := r.head; rw [ht]; simp
  refine ACall.make Try.func21 rfl (by kernel_rfl) (by decide) rfl (fun N hN => ?_)
  have hT : Top N s := hN
  obtain ⟨s1, hs1⟩ : ∃ s1, s1 = s.set N (.cells true 1 (ec ⟨0, 0, 0⟩)) := ⟨_, rfl⟩
  have T1 : Top (N + 1) s1 := by rw [hs1]; exact hT.new
  have F1 : Fr s1 s [] := by rw [hs1]; exact Fr.new (hT.free (Nat.le_refl _)) (Fr.refl _ _)
  have c1 := way11_yes (o := N + 1) (h.fr F1) hn hok hw (T1.none (Nat.le_refl _))
  rw [hs1] at c1

  (repeat' (first | (apply Ab.K.ev; exact ev_) | (apply Ab.K.aops; first | (apply Xg.s; constructor) | (apply Ab.S.guardU; (case hd => rfl); (case hb => (exact ev_; done))) | apply Ab.S.guardG) | (apply Ab.K.aop; first | (first | (apply Ab.O.allocA (l := ec ⟨0, 0, 0⟩) N; (case hid => exact frees_); (case hp => rfl)) | (apply Ab.O.alloc1 (N + 2); (case hid => exact frees_); (case hp => rfl)) | (apply Ab.O.storeAll; (case hz => rfl); (case hx => exact ev_); (case hy => exact ev_); (case hs => exact at_); (case hl => rfl); (case hc => rfl))) | (apply Og.s; constructor)) | (apply Ab.K.gk; first | (apply Xg.s; constructor) | (apply Ab.gY; case hw => assumption) | (apply Ab.gNT; case hw => assumption) | (apply Ab.gNF; case hw => assumption) | ((first | apply Ab.gD | apply Ab.gDN); all_goals (intro _ _; (first | contradiction | (exfalso; omega) | skip)))) | (apply Ab.K.awp; first | (apply Xg.s; constructor)) | (apply Ab.K.at_; exact at_) | (apply Ab.K.acall; first | assumption | exact c1) | (apply Ab.Rg.mk; omega) | (apply Ab.Lt.mk; first | decide | (simp; done) | (simp; omega) | first | omega | (show (0 + 3 : Nat) < 3 + 1; decide)) | (apply Ab.Get.mk; first | rfl | first | rfl | (rw [Int.toNat_natCast]; exact gx) | (rw [show ((i : Int) + 1).toNat = i + 1 from by omega]; exact gy)) | (apply Ab.Nm.mk; first | first | exact (show ((ec e).drop 0).take 3 = ec e from rfl) | exact nrm_) | (apply Xg.s; constructor) | (apply Ab.asm; assumption) | rfl | infer_instance | decide))
  clear c1 T1 F1 hs1
  refine AWp.loop (fun kk tm s1 => ∃ (k M : Nat) (v : Value) (on : Option Nat) (r : List E), Ev tm (.tmp 0) (.slice A n c) ∧ Ev tm (.tmp 6) (.pointer (some ⟨N, 0, none⟩)) ∧ Ev tm (.tmp 8) (.pointer (some ⟨N + 2, 0, none⟩)) ∧ Ev tm (.tmp 10) v ∧ Ev tm (.tmp 32) (.int .i64 ((p.length : Int) - 1)) ∧ Ev tm (.tmp 33) (.int .i64 k) ∧ At s1 N (.cells true 1 (ec ⟨0, 0, 0⟩)) ∧ At s1 (N + 1) (.cells true 1 (ints p)) ∧ At s1 (N + 2) (.cells true 1 [.slice (some ⟨N + 1, 0, none⟩) p.length p.length]) ∧ Gr s1 3 (N + 3) v on k (ecs r) ∧ k = r.length ∧ (∀ e, e ∈ r ↔ e ∈ l ∧ ∃ j x y, j < k ∧ p[j]? = some x ∧ p[j + 1]? = some y ∧ e.has x y) ∧ Fr s1 s [] ∧ Top M s1 ∧ N + 3 ≤ M ∧ k + 1 ≤ p.length ∧ kk = p.length - 1 - k) (p.length - 1) ?_ ?_
  · exact ⟨0, N + 3, _, _, [], by exact ev_, by exact ev_, by exact ev_, by exact ev_, by exact ev_, by exact ev_, by exact at_, by exact at_, by exact at_, Gr.nil, rfl, (fun e => ⟨fun h => (List.not_mem_nil h).elim, fun h => (by obtain ⟨_, _, _, _, h, _⟩ := h; omega)⟩), by exact fr_, by exact top_, Nat.le_refl _, by omega, rfl⟩
  rintro kk tm s1 ⟨k, M, v, ov, r, e0, e6, e8, e10, e32, e33, a6, a7, a8, G, hk, hr, F, T, hMM, hkl, hkk⟩
  have hlt := G.lt T
  have hge := G.from_

  by_cases hin : k + 1 < p.length
  · obtain ⟨x, hx⟩ : ∃ x, p[k]? = some x := ⟨_, List.getElem?_eq_getElem (by omega)⟩
    obtain ⟨y, hy⟩ : ∃ y, p[k + 1]? = some y := ⟨_, List.getElem?_eq_getElem hin⟩
    obtain ⟨s2, hs2⟩ : ∃ s2, s2 = (s1.set M (.cells true 1 [.int .i64 0])).set M (.cells true 1 [.int .i64 k]) := ⟨_, rfl⟩
    have F2 : Fr s2 s [] := by rw [hs2, AHeap.set_set]; exact Fr.new (hT.free (by omega)) F
    have T2 : Top (M + 1) s2 := by rw [hs2, AHeap.set_set]; exact T.new
    have aM : At s2 M (.cells true 1 [.int .i64 k]) := by rw [hs2]; exact At.hit
    have a72 : At s2 (N + 1) (.cells true 1 (ints p)) := by rw [hs2]; exact at_
    have a82 : At s2 (N + 2) (.cells true 1 [.slice (some ⟨N + 1, 0, none⟩) p.length p.length]) := by rw [hs2]; exact at_
    have c38 := index38p (fn := 39) (caps := #[.pointer (some ⟨N + 2, 0, none⟩), .pointer (some ⟨M, 0, none⟩)]) (b := fun e => decide (other e x = y)) (h.fr F2) (fun e _ => heaviest39 hp64 a82 aM a72 hx hy) hn
    rw [hs2] at c38
    (repeat' (first | (apply Ab.K.ev; exact ev_) | (apply Ab.K.aops; first | (apply Xg.s; constructor) | (apply Ab.S.guardU; (case hd => rfl); (case hb => (exact ev_; done))) | apply Ab.S.guardG) | (apply Ab.K.aop; first | (first | (apply Ab.O.alloc1 M; (case hid => exact T.free (Nat.le_refl _)); (case hp => rfl)) | (apply Ab.O.makeFunc; (case h1 => exact evs_); (case h2 => exact evs_); (case a1 => rfl); (case a2 => rfl)) | (apply Ab.O.callFE; (case ha => exact evs_); (case hc => exact c38))) | (apply Og.s; constructor)) | (apply Ab.K.gk; first | (apply Xg.s; constructor) | (apply Ab.gY; case hw => assumption) | (apply Ab.gNT; case hw => assumption) | (apply Ab.gNF; case hw => assumption) | ((first | apply Ab.gD | apply Ab.gDN); all_goals (intro _ _; (first | contradiction | (exfalso; omega) | skip)))) | (apply Ab.K.awp; first | (apply Xg.s; constructor)) | (apply Ab.K.at_; exact at_) | (apply Ab.K.acall; first | assumption | fail) | (apply Ab.Rg.mk; omega) | (apply Ab.Lt.mk; first | decide | (simp; done) | (simp; omega) | first | omega | (show (0 + 3 : Nat) < 3 + 1; decide)) | (apply Ab.Get.mk; first | rfl | first | rfl | (rw [Int.toNat_natCast]; exact gx) | (rw [show ((i : Int) + 1).toNat = i + 1 from by omega]; exact gy)) | (apply Ab.Nm.mk; first | first | exact (show ((ec e).drop 0).take 3 = ec e from rfl) | exact nrm_) | (apply Xg.s; constructor) | (apply Ab.asm; assumption) | rfl | infer_instance | decide))
    rintro v2 s3 ⟨rfl, hh⟩
    rw [← hs2]
    clear c38
    have hyn := hnodes y (List.mem_of_getElem? hy)
    rcases hh with ⟨i0, e0', hi0, hl0, hb0, _, rfl⟩ | ⟨hall, rfl⟩
    · have hoth := of_decide_eq_true hb0
      have hhas : e0'.has x y := by rw [← hoth]; exact other_has (by rw [hoth]; have := hyn.1; omega)
      obtain ⟨q, rw1, cs, rfl, hon, _, hq, hcs, hE, _⟩ := (h.fr F2).elt hl0
      have hqM := T2.lt hq
      have G1 : Gr s2 3 (N + 3) v ov k (ecs r) := by rw [hs2]; exact (G.set (fun q e => by have := hlt q e; omega)).set (fun q e => by have := hlt q e; omega)
      have a62 : At s2 N (.cells true 1 (ec ⟨0, 0, 0⟩)) := by rw [hs2]; exact at_


      (repeat' (first | (apply Ab.K.ev; exact ev_) | (apply Ab.K.aops; first | (apply Xg.s; constructor) | (apply Ab.S.guardU; (case hd => rfl); (case hb => (exact ev_; done))) | apply Ab.S.guardG) | (apply Ab.K.aop; first | (apply Ab.O.build1A (M + 1); (case hx => exact ev_); (case hl => rfl); (case hz => exact ⟨rfl, rfl⟩); (case hes => decide); (case hid => exact T2.free (Nat.le_refl _))) | (apply Og.s; constructor)) | (apply Ab.K.gk; first | (apply Xg.s; constructor) | (apply Ab.gY; case hw => assumption) | (apply Ab.gNT; case hw => assumption) | (apply Ab.gNF; case hw => assumption) | ((first | apply Ab.gD | apply Ab.gDN); all_goals (intro _ _; (first | contradiction | (exfalso; omega) | skip)))) | (apply Ab.K.awp; first | (apply Xg.s; constructor)) | (apply Ab.K.at_; exact at_) | (apply Ab.K.acall; first | assumption | fail) | (apply Ab.Rg.mk; omega) | (apply Ab.Lt.mk; first | decide | (simp; done) | (simp; omega) | omega) | (apply Ab.Get.mk; first | rfl | first | rfl | (rw [Int.toNat_natCast]; exact gx) | (rw [show ((i : Int) + 1).toNat = i + 1 from by omega]; exact gy)) | (apply Ab.Nm.mk; first | exact Eq.trans (congrArg (fun z => List.take _ (List.drop (z * 3) cs)) (Int.toNat_natCast i0)) hE | exact nrm_) | (apply Xg.s; constructor) | (apply Ab.asm; assumption) | rfl | infer_instance | decide))
      have G2 := G1.set (id := M + 1) (b := .cells true 3 (ec e0')) (fun q e => by have := hlt q e; omega)
      (apply Ab.O.appendL (M + 2); (case hx => exact ev_); (case hL => exact Ab.Gr.lat (by assumption)); (case hy => exact ev_); (case hs => exact srcAll At.hit rfl); (case hk => rfl); (case hm => decide); (case hl => first | rfl | simp); (case hz => decide); (case hb => omega); (case hfree => exact free_))
      intro s4 g
      have T3 := G2.topN g T2.new
      have F3 := G2.frN g (Fr.new (hT.free (by omega)) F2) (hT.mono (by omega))
      have b6 := Gr.off g (At.miss (by omega) a62) (fun q e => by have := hge q e; omega) (by omega)
      have b7 := Gr.off g (At.miss (by omega) a72) (fun q e => by have := hge q e; omega) (by omega)
      have b8 := Gr.off g (At.miss (by omega) a82) (fun q e => by have := hge q e; omega) (by omega)
      rw [show ecs r ++ ec e0' = ecs (r ++ [e0']) from by rw [ecs_append]; simp [ecs]] at g
      have G3 : Gr s4 3 (N + 3) _ _ (k + 1) _ := Gr.app g (by rw [ecs_length, List.length_append, hk]; rfl) (by omega)
      (repeat' (first | (apply Ab.K.ev; exact ev_) | (apply Ab.K.aops; first | (apply Xg.s; constructor) | (apply Ab.S.guardU; (case hd => rfl); (case hb => (exact ev_; done))) | apply Ab.S.guardG) | (apply Ab.K.aop; first | (apply Og.s; constructor)) | (apply Ab.K.gk; first | (apply Xg.s; constructor) | (apply Ab.gY; case hw => assumption) | (apply Ab.gNT; case hw => assumption) | (apply Ab.gNF; case hw => assumption) | ((first | apply Ab.gD | apply Ab.gDN); all_goals (intro _ _; (first | contradiction | (exfalso; omega) | skip)))) | (apply Ab.K.awp; first | (apply Xg.s; constructor)) | (apply Ab.K.at_; exact at_) | (apply Ab.K.acall; first | assumption | fail) | (apply Ab.Rg.mk; omega) | (apply Ab.Lt.mk; first | decide | (simp; done) | (simp; omega) | omega) | (apply Ab.Get.mk; first | rfl | first | rfl | (rw [Int.toNat_natCast]; exact gx) | (rw [show ((i : Int) + 1).toNat = i + 1 from by omega]; exact gy)) | (apply Ab.Nm.mk; first | exact Eq.trans (congrArg (fun z => List.take _ (List.drop (z * 3) cs)) (Int.toNat_natCast i0)) hE | exact nrm_) | (apply Xg.s; constructor) | (apply Ab.asm; assumption) | rfl | infer_instance | decide))
      refine X.roundN (p.length - 1 - (k + 1)) (by omega) ⟨k + 1, M + 3, _, _, r ++ [e0'], by exact ev_, by exact ev_, by exact ev_, by exact ev_, by exact ev_, by exact ev_, b6, b7, b8, G3, by rw [List.length_append, hk]; rfl, fun e => ?_, F3, T3, by omega, by omega, rfl⟩
      rw [List.mem_append, hr, List.mem_singleton]
      constructor
      · rintro (⟨h1, j, x', y', h2, h3⟩ | rfl)
        · exact ⟨h1, j, x', y', by omega, h3⟩
        · exact ⟨List.mem_of_getElem? hl0, k, x, y, by omega, hx, hy, hhas⟩
      · rintro ⟨h1, j, x', y', h2, h3, h4, h5⟩
        by_cases hjk : j < k
        · exact .inl ⟨h1, j, x', y', hjk, h3, h4, h5⟩
        · obtain rfl : j = k := by omega
          rw [hx] at h3; rw [hy] at h4
          obtain rfl := Option.some.inj h3
          obtain rfl := Option.some.inj h4
          exact .inr (hg.eq h1 (List.mem_of_getElem? hl0) h5 hhas)
    · exfalso
      obtain ⟨e, he, hh, _⟩ := hw.edge hx hy
      have := of_decide_eq_false (hall e he)
      exact this (has_other (hg.1 e he) hh)
  · have hkp : k + 1 = p.length := by omega
    have hkpos : k ≠ 0 := by omega
    have hon : ∀ e, e ∈ r ↔ e ∈ onP l p := fun e => by
      rw [hr, onP_mem]
      refine and_congr_right fun _ => ⟨?_, ?_⟩
      · rintro ⟨j, x, y, hj, hx, hy, hh⟩
        refine ⟨p.take j, p.drop (j + 2), x, y, ?_, hh⟩
        have d1 := List.drop_eq_getElem_cons (l := p) (i := j) (by omega)
        have d2 := List.drop_eq_getElem_cons (l := p) (i := j + 1) (by omega)
        rw [← (List.getElem?_eq_some_iff.1 hx).2, ← (List.getElem?_eq_some_iff.1 hy).2, ← d2, ← d1, List.take_append_drop]
      · rintro ⟨u, v, x, y, he, hh⟩
        refine ⟨u.length, x, y, ?_, ?_, ?_, hh⟩
        · have := congrArg List.length he
          simp at this; omega
        · rw [he]; simp
        · rw [he]; simp
    obtain ⟨q, rfl, rfl, aq, _, hq⟩ := G.own hkpos
    have hEA : EA s1 (.slice (some ⟨q, 0, none⟩) k k) (some q) r := by rw [hk]; exact EA.own aq
    have hrl : k ≤ 512 := by omega
    have c40 := max40 hEA (hgt.congr hon) hrl

    (repeat' (first | (apply Ab.K.ev; exact ev_) | (apply Ab.K.aops; first | (apply Xg.s; constructor) | (apply Ab.S.guardU; (case hd => rfl); (case hb => (exact ev_; done))) | apply Ab.S.guardG) | (apply Ab.K.aop; first | (apply Ab.O.storeAll; (case hz => rfl); (case hx => exact ev_); (case hy => exact ev_); (case hs => exact at_); (case hl => rfl); (case hc => rfl)) | (apply Og.s; constructor)) | (apply Ab.K.gk; first | (apply Xg.s; constructor) | (apply Ab.gY; case hw => assumption) | (apply Ab.gNT; case hw => assumption) | (apply Ab.gNF; case hw => assumption) | ((first | apply Ab.gD | apply Ab.gDN); all_goals (intro _ _; (first | contradiction | (exfalso; omega) | skip)))) | (apply Ab.K.awp; first | (apply Xg.s; constructor)) | (apply Ab.K.at_; exact at_) | (apply Ab.K.acall; first | assumption | exact c40) | (apply Ab.Rg.mk; omega) | (apply Ab.Lt.mk; first | decide | (simp; done) | (simp; omega) | omega) | (apply Ab.Get.mk; first | rfl | first | rfl | (rw [Int.toNat_natCast]; exact gx) | (rw [show ((i : Int) + 1).toNat = i + 1 from by omega]; exact gy)) | (apply Ab.Nm.mk; first | exact Eq.trans (congrArg (fun z => List.take _ (List.drop (z * 3) cs)) (Int.toNat_natCast i0)) hE | exact nrm_) | (apply Xg.s; constructor) | (apply Ab.asm; assumption) | rfl | infer_instance | decide))
    all_goals ((first | apply RetQ.ret | apply RetQ.normal); (case he => exact evr_); (case hg => rfl))
    all_goals first | rfl | (apply Keeps.fr; (case h => exact fr_); (case hv => exact plR.nm rfl))
end Go.Proofs.Ytnbgeodignljfaa
