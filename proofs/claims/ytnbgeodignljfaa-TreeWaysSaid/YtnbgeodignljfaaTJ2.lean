/- trees: join, Unite (written by gen_tj.py from c06). -/
import Derived.Test.YtnbgeodignljfaaTJ1
namespace Go.Proofs.Ytnbgeodignljfaa
set_option linter.unusedVariables false
set_option linter.unusedSimpArgs false
set_option linter.unusedSectionVars false
open Go.RowKit Ab JP
attribute [local irreducible] AOps AOpsD AOp AWp put nargs AHeap.set At Free ACall thenQ blockQ roundQ RetQ Src
def jCells (u z l n c1 c2 c3 : Nat) (k : Int) : List Value := [.slice (some ⟨u, 0, none⟩) n c1, .slice (some ⟨z, 0, none⟩) n c2, .slice (some ⟨l, 0, none⟩) n c3, .int .i64 k]
/-- A Join in memory. -/
structure JAt (s : AHeap) (j u z l c1 c2 c3 : Nat) (U S L : List Int) (k : Int) : Prop where
  hj : At s j (.cells true 1 (jCells u z l U.length c1 c2 c3 k))
  hu : At s u (.cells true 1 (ints U))
  hz : At s z (.cells true 1 (ints S))
  hl : At s l (.cells true 1 (ints L))
  ls : S.length = U.length
  ll : L.length = U.length
  ne : j ≠ u ∧ j ≠ z ∧ j ≠ l ∧ u ≠ z ∧ u ≠ l ∧ z ≠ l
def jset (s : AHeap) (j u z l c1 c2 c3 : Nat) (U S L : List Int) (k : Int) : AHeap :=
  updH s [(u, .cells true 1 (ints U)), (z, .cells true 1 (ints S)), (l, .cells true 1 (ints L)), (j, .cells true 1 (jCells u z l U.length c1 c2 c3 k))]

theorem JAt.setU {s : AHeap} {j u z l c1 c2 c3 : Nat} {U S L U' : List Int} {k : Int} (h : JAt s j u z l c1 c2 c3 U S L k) (hl : U'.length = U.length) : JAt (s.set u (.cells true 1 (ints U'))) j u z l c1 c2 c3 U' S L k := by
  obtain ⟨n1, n2, n3, n4, n5, n6⟩ := h.ne
  exact ⟨At.miss n1 (by rw [hl]; exact h.hj), At.hit, At.miss (Ne.symm n4) h.hz, At.miss (Ne.symm n5) h.hl, by rw [hl]; exact h.ls, by rw [hl]; exact h.ll, h.ne⟩

theorem jset_u {s : AHeap} {j u z l c1 c2 c3 : Nat} {U S L U' : List Int} {k : Int} (h : JAt s j u z l c1 c2 c3 U S L k) (hl : U'.length = U.length) : jset s j u z l c1 c2 c3 U' S L k = s.set u (.cells true 1 (ints U')) := by
  obtain ⟨n1, n2, n3, n4, n5, n6⟩ := h.ne
  unfold jset
  simp only [updH]
  rw [hl, set_self (i := j), set_self (i := l), set_self (i := z)]
  · exact (At.miss (Ne.symm n4) h.hz).eq
  · rw [set_self (At.miss (Ne.symm n4) h.hz).eq]; exact (At.miss (Ne.symm n5) h.hl).eq
  · rw [set_self (i := l), set_self (At.miss (Ne.symm n4) h.hz).eq]
    · exact (At.miss n1 h.hj).eq
    · rw [set_self (At.miss (Ne.symm n4) h.hz).eq]; exact (At.miss (Ne.symm n5) h.hl).eq
theorem jset_self {s : AHeap} {j u z l c1 c2 c3 : Nat} {U S L : List Int} {k : Int} (h : JAt s j u z l c1 c2 c3 U S L k) : jset s j u z l c1 c2 c3 U S L k = s := by
  rw [jset_u h rfl, set_self h.hu.eq]
theorem jset_at {s : AHeap} {j u z l c1 c2 c3 : Nat} {U S L : List Int} {k : Int} (hne : j ≠ u ∧ j ≠ z ∧ j ≠ l ∧ u ≠ z ∧ u ≠ l ∧ z ≠ l) (ls : S.length = U.length) (ll : L.length = U.length) : JAt (jset s j u z l c1 c2 c3 U S L k) j u z l c1 c2 c3 U S L k := by
  obtain ⟨n1, n2, n3, n4, n5, n6⟩ := hne
  exact ⟨At.hit, At.miss (Ne.symm n1) (At.miss n5 (At.miss n4 At.hit)), At.miss (Ne.symm n2) (At.miss n6 At.hit), At.miss (Ne.symm n3) At.hit, ls, ll, ⟨n1, n2, n3, n4, n5, n6⟩⟩
theorem jset_keeps {s s1 : AHeap} {j u z l c1 c2 c3 : Nat} {U S L : List Int} {k : Int} {v : Bool} (hf : Fr s1 s [u, z, l, j])
    (h : At s1 u (.cells true 1 (ints U)) ∧ At s1 z (.cells true 1 (ints S)) ∧ At s1 l (.cells true 1 (ints L)) ∧ At s1 j (.cells true 1 (jCells u z l U.length c1 c2 c3 k))) :
    Keeps s s1 (jset s j u z l c1 c2 c3 U S L k) (.bool v) := by
  refine Keeps.upd [(u, _), (z, _), (l, _), (j, _)] hf ⟨⟨h.1, nm_scal (ints_pl _)⟩, ⟨h.2.1, nm_scal (ints_pl _)⟩, ⟨h.2.2.1, nm_scal (ints_pl _)⟩, ⟨h.2.2.2, ?_⟩, trivial⟩ trivial
  intro x hx
  simp only [jCells, List.mem_cons, List.not_mem_nil, or_false] at hx
  rcases hx with rfl | rfl | rfl | rfl
  · exact updH_some (.inr (by simp))
  · exact updH_some (.inr (by simp))
  · exact updH_some (.inr (by simp))
  · trivial

theorem unite_no {s : AHeap} {j u z l c1 c2 c3 : Nat} {U S L : List Int} {k : Int} (h : JAt s j u z l c1 c2 c3 U S L k) {a b : Int} (ha : ¬ ((1 ≤ a ∧ a < U.length) ∧ (1 ≤ b ∧ b < U.length))) :
    ACall Try.prog 47 [.pointer (some ⟨j, 0, none⟩), .int .i64 a, .int .i64 b] s (.bool false) s := by
  have hj := h.hj
  unfold jCells at hj
  refine ACall.make Try.func47 rfl (by kernel_rfl) (by decide) rfl (fun N hN => ?_)
  by_cases h1 : 1 ≤ a ∧ a < U.length
  · have c1 := has_yes hj h1
    have c2 := has_no hj (a := b) (fun h2 => ha ⟨h1, h2⟩)
    (repeat' (first | (apply Ab.K.ev; exact ev_) | (apply Ab.K.aops; first | (apply Xg.s; constructor) | apply Ab.S.guardG) | (apply Ab.K.aop; first | (apply Og.s; constructor)) | (apply Ab.K.gk; first | (apply Xg.s; constructor) | (apply Ab.gY; case hw => assumption) | (apply Ab.gNT; case hw => assumption) | (apply Ab.gNF; case hw => assumption) | ((first | apply Ab.gD | apply Ab.gDN); all_goals (intro _ _; (first | contradiction | (exfalso; omega) | skip)))) | (apply Ab.K.awp; first | (apply Xg.s; constructor)) | (apply Ab.K.at_; exact at_) | (apply Ab.K.acall; first | assumption | fail) | (apply Ab.Rg.mk; omega) | (apply Ab.Lt.mk; first | decide | (simp; done) | (simp; omega) | fail) | (apply Ab.Get.mk; first | rfl | fail) | (apply Ab.Nm.mk; first | exact nrm_) | (apply Xg.s; constructor) | (apply Ab.asm; assumption) | rfl | infer_instance | decide))
    all_goals ((first | apply RetQ.ret | apply RetQ.normal); (case he => exact evr_); (case hg => rfl))
    · rfl
    · exact Keeps.self trivial
  · have c1 := has_no hj h1
    (repeat' (first | (apply Ab.K.ev; exact ev_) | (apply Ab.K.aops; first | (apply Xg.s; constructor) | apply Ab.S.guardG) | (apply Ab.K.aop; first | (apply Og.s; constructor)) | (apply Ab.K.gk; first | (apply Xg.s; constructor) | (apply Ab.gY; case hw => assumption) | (apply Ab.gNT; case hw => assumption) | (apply Ab.gNF; case hw => assumption) | ((first | apply Ab.gD | apply Ab.gDN); all_goals (intro _ _; (first | contradiction | (exfalso; omega) | skip)))) | (apply Ab.K.awp; first | (apply Xg.s; constructor)) | (apply Ab.K.at_; exact at_) | (apply Ab.K.acall; first | assumption | fail) | (apply Ab.Rg.mk; omega) | (apply Ab.Lt.mk; first | decide | (simp; done) | (simp; omega) | fail) | (apply Ab.Get.mk; first | rfl | fail) | (apply Ab.Nm.mk; first | exact nrm_) | (apply Xg.s; constructor) | (apply Ab.asm; assumption) | rfl | infer_instance | decide))
    all_goals ((first | apply RetQ.ret | apply RetQ.normal); (case he => exact evr_); (case hg => rfl))
    · rfl
    · exact Keeps.self trivial

theorem unite_eq {m : Int → Nat} {w : List Int} {s : AHeap} {j u z l c1 c2 c3 : Nat} {U S L : List Int} {k : Int} (h : JAt s j u z l c1 c2 c3 U S L k) (hi : JInv m U S L k w) {a b : Int} (ha : 1 ≤ a ∧ a < U.length) (hb : 1 ≤ b ∧ b < U.length)
    (he : (topS (m a) U a).2 = (topS (m b) (topS (m a) U a).1 b).2) :
    ACall Try.prog 47 [.pointer (some ⟨j, 0, none⟩), .int .i64 a, .int .i64 b] s (.bool false) (s.set u (.cells true 1 (ints (topS (m b) (topS (m a) U a).1 b).1))) := by
  have hj := h.hj
  have hu := h.hu
  obtain ⟨n1, n2, n3, n4, n5, n6⟩ := h.ne
  unfold jCells at hj
  have haU : In U a := ⟨by omega, ha.2⟩
  have haw : In w a := by simpa [In, hi.lu] using haU
  have hbU : In U b := ⟨by omega, hb.2⟩
  have hbw : In w b := by simpa [In, hi.lu] using hbU
  have c1 := has_yes hj ha
  have c2 := has_yes hj hb
  have c3 := top_spec (a := a) hi.wf haU n1 hj hu
  obtain ⟨j1, r1, r2, r3⟩ := hi.top haw
  have hU1 : In (topS (m a) U a).1 b := by simpa [In, j1.lu] using hbw
  have hl1 : (topS (m a) U a).1.length = U.length := by rw [j1.lu, hi.lu]
  have c4 := top_spec (s := s.set u (.cells true 1 (ints (topS (m a) U a).1))) (a := b) (c := _) (rest := _) (sz := _) j1.wf hU1 n1 (by rw [hl1]; exact At.miss n1 hj) At.hit
  refine ACall.make Try.func47 rfl (by kernel_rfl) (by decide) rfl (fun N hN => ?_)
  (repeat' (first | (apply Ab.K.ev; exact ev_) | (apply Ab.K.aops; first | (apply Xg.s; constructor) | apply Ab.S.guardG) | (apply Ab.K.aop; first | (apply Og.s; constructor)) | (apply Ab.K.gk; first | (apply Xg.s; constructor) | (apply Ab.gY; case hw => assumption) | (apply Ab.gNT; case hw => assumption) | (apply Ab.gNF; case hw => assumption) | ((first | apply Ab.gD | apply Ab.gDN); all_goals (intro _ _; (first | contradiction | (exfalso; omega) | skip)))) | (apply Ab.K.awp; first | (apply Xg.s; constructor)) | (apply Ab.K.at_; exact at_) | (apply Ab.K.acall; first | assumption | fail) | (apply Ab.Rg.mk; omega) | (apply Ab.Lt.mk; first | decide | (simp; done) | (simp; omega) | fail) | (apply Ab.Get.mk; first | rfl | fail) | (apply Ab.Nm.mk; first | exact nrm_) | (apply Xg.s; constructor) | (apply Ab.asm; assumption) | rfl | infer_instance | decide))
  all_goals ((first | apply RetQ.ret | apply RetQ.normal); (case he => exact evr_); (case hg => rfl))
  · rfl
  · exact Keeps.upd [(u, _)] (by exact fr_) ⟨⟨by exact at_, nm_scal (ints_pl _)⟩, trivial⟩ trivial

set_option maxHeartbeats 4000000 in
theorem unite_ne {m : Int → Nat} {w : List Int} {s : AHeap} {j u z l c1 c2 c3 : Nat} {U S L : List Int} {k : Int} (h : JAt s j u z l c1 c2 c3 U S L k) (hi : JInv m U S L k w) (hsz : w.length ≤ 5000) {a b : Int} (ha : 1 ≤ a ∧ a < U.length) (hb : 1 ≤ b ∧ b < U.length)
    (he : (topS (m a) U a).2 ≠ (topS (m b) (topS (m a) U a).1 b).2) {ra rb : Int} {U2 : List Int} (era : (topS (m a) U a).2 = ra) (erb : (topS (m b) (topS (m a) U a).1 b).2 = rb) (eU : (topS (m b) (topS (m a) U a).1 b).1 = U2)
    {p q : Int} (hpq : (g S rb ≤ g S ra ∧ p = ra ∧ q = rb) ∨ (g S ra < g S rb ∧ p = rb ∧ q = ra)) (hip : In U p) (hiq : In U q) (hp0 : 0 ≤ g S p) (hq0 : 0 ≤ g S q) (hs : g S p + g S q ≤ 5000) (hk : 1 ≤ k ∧ k ≤ 5000) :
    ACall Try.prog 47 [.pointer (some ⟨j, 0, none⟩), .int .i64 a, .int .i64 b] s (.bool true)
      (jset s j u z l c1 c2 c3 (U2.set q.toNat p) (S.set p.toNat (g S p + g S q)) (L.set p.toNat (if g L q < g L p then g L q else g L p)) (k - 1)) := by
  have hj := h.hj
  have hu := h.hu
  have hz := h.hz
  have hl := h.hl
  have lS := h.ls
  have lL := h.ll
  obtain ⟨n1, n2, n3, n4, n5, n6⟩ := h.ne
  unfold jCells at hj
  have haU : In U a := ⟨by omega, ha.2⟩
  have haw : In w a := by simpa [In, hi.lu] using haU
  have hbU : In U b := ⟨by omega, hb.2⟩
  have hbw : In w b := by simpa [In, hi.lu] using hbU
  have c1 := has_yes hj ha
  have c2 := has_yes hj hb
  have c3 := top_spec (a := a) hi.wf haU n1 hj hu
  obtain ⟨j1, r1, r2, r3⟩ := hi.top haw
  have hU1 : In (topS (m a) U a).1 b := by simpa [In, j1.lu] using hbw
  have hl1 : (topS (m a) U a).1.length = U.length := by rw [j1.lu, hi.lu]
  have c4 := top_spec (s := s.set u (.cells true 1 (ints (topS (m a) U a).1))) (a := b) (c := _) (rest := _) (sz := _) j1.wf hU1 n1 (by rw [hl1]; exact At.miss n1 hj) At.hit
  obtain ⟨j2, q1, q2, q3⟩ := j1.top hbw
  have hl2 : U2.length = U.length := by rw [← eU, j2.lu, hi.lu]
  rw [eU] at c4
  rw [erb] at c4 he
  rw [era] at c3 he
  clear j1 j2 r1 r2 r3 q1 q2 q3 hU1 hl1 eU era erb
  have pS : In S p := by simpa [In, lS] using hip
  have qS : In S q := by simpa [In, lS] using hiq
  have pL : In L p := by simpa [In, lL] using hip
  have qL : In L q := by simpa [In, lL] using hiq
  have qU2 : In U2 q := by simpa [In, hl2] using hiq
  have b1 := hip.1
  have b2 := hip.2
  have b3 := hiq.1
  have b4 := hiq.2
  refine ACall.make Try.func47 rfl (by kernel_rfl) (by decide) rfl (fun N hN => ?_)




  rcases hpq with ⟨hg, rfl, rfl⟩ | ⟨hg, rfl, rfl⟩
  · (repeat' (first | (apply Ab.K.ev; exact ev_) | (apply Ab.K.aops; first | (apply Xg.s; constructor) | apply Ab.S.guardG) | (apply Ab.K.aop; first | (apply Ab.O.min2) | (apply Og.s; constructor)) | (apply Ab.K.gk; first | (apply Xg.s; constructor) | (apply Ab.gY; case hw => assumption) | (apply Ab.gNT; case hw => assumption) | (apply Ab.gNF; case hw => assumption) | ((first | apply Ab.gD | apply Ab.gDN); all_goals (intro _ _; (first | contradiction | (exfalso; omega) | skip)))) | (apply Ab.K.aopsD; first | (apply Ab.D.q0t; (case hw => rfl); (case hot => rfl)) | (apply Ab.D.w1t; (case hw => rfl); (case hot => rfl)) | (apply Ab.D.q0; (case hw => rfl); intro _ _) | (apply Ab.D.w1n; (case hw => rfl); intro _ _) | (apply Ab.D.w2n; (case hw => rfl); intro _ _) | (apply Xg.s; constructor) | fail | apply Ab.D.guardG) | exact ⟨rfl, rfl⟩ | (apply Ab.K.awp; first | (apply AWp.draw (id := 6) [[], [0], [0, 1], [0, 1, 2], [], [0, 1, 2, 3, 4], [0, 1, 2, 3, 4, 5], [], [7], [7, 8], [7, 8, 9], [], [7, 8, 9, 10, 11], [7, 8, 9, 10, 11, 12], [0, 1, 2, 3, 4, 5, 6, 7, 8, 9, 10, 11, 12, 13]] [] (by kernel_rfl) (by kernel_rfl) (by simp [apartW, unordB, cC] <;> omega)) | (apply AWp.draw (id := 8) [[], [0], [0, 1], [0, 1, 2], [], [], [5], [5, 6], [5, 6, 7], [], [], [10], [10, 11], [10, 11, 12], [], [], [], [16], [16, 17], [16, 17, 18], [], [16, 17, 18, 19, 20], [16, 17, 18, 19, 20, 21], [], [23], [23, 24], [23, 24, 25], [], [23, 24, 25, 26, 27], [23, 24, 25, 26, 27, 28], [16, 17, 18, 19, 20, 21, 22, 23, 24, 25, 26, 27, 28, 29], [], [31], [31, 32], [31, 32, 33], [], [31, 32, 33, 34, 35], [31, 32, 33, 34, 35, 36], [], [38], [38, 39], [38, 39, 40], [], [38, 39, 40, 41, 42], [38, 39, 40, 41, 42, 43], [31, 32, 33, 34, 35, 36, 37, 38, 39, 40, 41, 42, 43, 44], [0, 1, 2, 3, 4, 5, 6, 7, 8, 10, 11, 12, 13, 15, 16, 17, 18, 19, 20, 21, 22, 23, 24, 25, 26, 27, 28, 29, 31, 32, 33, 34, 35, 36, 37, 38, 39, 40, 41, 42, 43, 44], [0, 1, 2, 3, 4, 5, 6, 7, 8, 10, 11, 12, 13, 15, 16, 17, 18, 19, 20, 21, 22, 23, 24, 25, 26, 27, 28, 29, 31, 32, 33, 34, 35, 36, 37, 38, 39, 40, 41, 42, 43, 44, 46], [0, 1, 2, 3, 4, 5, 6, 7, 8, 9, 10, 11, 12, 13, 15, 16, 17, 18, 19, 20, 21, 22, 23, 24, 25, 26, 27, 28, 29, 30, 31, 32, 33, 34, 35, 36, 37, 38, 39, 40, 41, 42, 43, 44, 46, 47], [0, 1, 2, 3, 4, 5, 6, 7, 8, 9, 10, 11, 12, 13, 15, 16, 17, 18, 19, 20, 21, 22, 23, 24, 25, 26, 27, 28, 29, 30, 31, 32, 33, 34, 35, 36, 37, 38, 39, 40, 41, 42, 43, 44, 46, 47, 48], [0, 1, 2, 3, 4, 5, 6, 7, 8, 9, 10, 11, 12, 13, 14, 15, 16, 17, 18, 19, 20, 21, 22, 23, 24, 25, 26, 27, 28, 29, 30, 31, 32, 33, 34, 35, 36, 37, 38, 39, 40, 41, 42, 43, 44, 45, 46, 47, 48, 49], [0, 1, 2, 3, 4, 5, 6, 7, 8, 9, 10, 11, 12, 13, 14, 15, 16, 17, 18, 19, 20, 21, 22, 23, 24, 25, 26, 27, 28, 29, 30, 31, 32, 33, 34, 35, 36, 37, 38, 39, 40, 41, 42, 43, 44, 45, 46, 47, 48, 49, 50]] [(47, [u]), (49, [z]), (51, [l])] (by kernel_rfl) (by kernel_rfl) (by simp [apartW, unordB, cC] <;> omega)) | (apply Xg.s; constructor)) | (apply Ab.K.at_; exact at_) | (apply Ab.K.acall; first | assumption | fail) | (apply Ab.Rg.mk; omega) | (apply Ab.Lt.mk; first | decide | (simp; done) | (simp; omega) | (first | (rw [ints_length]; omega) | (simp; done))) | (apply Ab.Get.mk; first | rfl | exact ints_at (by assumption)) | (apply Ab.Nm.mk; first | exact nrm_) | (apply Xg.s; constructor) | (apply Ab.asm; assumption) | rfl | infer_instance | decide))
    all_goals ((first | apply RetQ.ret | apply RetQ.normal); (case he => exact evr_); (case hg => rfl))
    · rfl
    · simp only [ints_set]
      exact jset_keeps (by exact fr_) ⟨by exact at_, by exact at_, by exact at_, by rw [List.length_set, hl2]; exact at_⟩
  · (repeat' (first | (apply Ab.K.ev; exact ev_) | (apply Ab.K.aops; first | (apply Xg.s; constructor) | apply Ab.S.guardG) | (apply Ab.K.aop; first | (apply Ab.O.min2) | (apply Og.s; constructor)) | (apply Ab.K.gk; first | (apply Xg.s; constructor) | (apply Ab.gY; case hw => assumption) | (apply Ab.gNT; case hw => assumption) | (apply Ab.gNF; case hw => assumption) | ((first | apply Ab.gD | apply Ab.gDN); all_goals (intro _ _; (first | contradiction | (exfalso; omega) | skip)))) | (apply Ab.K.aopsD; first | (apply Ab.D.q0t; (case hw => rfl); (case hot => rfl)) | (apply Ab.D.w1t; (case hw => rfl); (case hot => rfl)) | (apply Ab.D.q0; (case hw => rfl); intro _ _) | (apply Ab.D.w1n; (case hw => rfl); intro _ _) | (apply Ab.D.w2n; (case hw => rfl); intro _ _) | (apply Xg.s; constructor) | fail | apply Ab.D.guardG) | exact ⟨rfl, rfl⟩ | (apply Ab.K.awp; first | (apply AWp.draw (id := 6) [[], [0], [0, 1], [0, 1, 2], [], [0, 1, 2, 3, 4], [0, 1, 2, 3, 4, 5], [], [7], [7, 8], [7, 8, 9], [], [7, 8, 9, 10, 11], [7, 8, 9, 10, 11, 12], [0, 1, 2, 3, 4, 5, 6, 7, 8, 9, 10, 11, 12, 13]] [] (by kernel_rfl) (by kernel_rfl) (by simp [apartW, unordB, cC] <;> omega)) | (apply AWp.draw (id := 8) [[], [0], [0, 1], [0, 1, 2], [], [], [5], [5, 6], [5, 6, 7], [], [], [10], [10, 11], [10, 11, 12], [], [], [], [16], [16, 17], [16, 17, 18], [], [16, 17, 18, 19, 20], [16, 17, 18, 19, 20, 21], [], [23], [23, 24], [23, 24, 25], [], [23, 24, 25, 26, 27], [23, 24, 25, 26, 27, 28], [16, 17, 18, 19, 20, 21, 22, 23, 24, 25, 26, 27, 28, 29], [], [31], [31, 32], [31, 32, 33], [], [31, 32, 33, 34, 35], [31, 32, 33, 34, 35, 36], [], [38], [38, 39], [38, 39, 40], [], [38, 39, 40, 41, 42], [38, 39, 40, 41, 42, 43], [31, 32, 33, 34, 35, 36, 37, 38, 39, 40, 41, 42, 43, 44], [0, 1, 2, 3, 4, 5, 6, 7, 8, 10, 11, 12, 13, 15, 16, 17, 18, 19, 20, 21, 22, 23, 24, 25, 26, 27, 28, 29, 31, 32, 33, 34, 35, 36, 37, 38, 39, 40, 41, 42, 43, 44], [0, 1, 2, 3, 4, 5, 6, 7, 8, 10, 11, 12, 13, 15, 16, 17, 18, 19, 20, 21, 22, 23, 24, 25, 26, 27, 28, 29, 31, 32, 33, 34, 35, 36, 37, 38, 39, 40, 41, 42, 43, 44, 46], [0, 1, 2, 3, 4, 5, 6, 7, 8, 9, 10, 11, 12, 13, 15, 16, 17, 18, 19, 20, 21, 22, 23, 24, 25, 26, 27, 28, 29, 30, 31, 32, 33, 34, 35, 36, 37, 38, 39, 40, 41, 42, 43, 44, 46, 47], [0, 1, 2, 3, 4, 5, 6, 7, 8, 9, 10, 11, 12, 13, 15, 16, 17, 18, 19, 20, 21, 22, 23, 24, 25, 26, 27, 28, 29, 30, 31, 32, 33, 34, 35, 36, 37, 38, 39, 40, 41, 42, 43, 44, 46, 47, 48], [0, 1, 2, 3, 4, 5, 6, 7, 8, 9, 10, 11, 12, 13, 14, 15, 16, 17, 18, 19, 20, 21, 22, 23, 24, 25, 26, 27, 28, 29, 30, 31, 32, 33, 34, 35, 36, 37, 38, 39, 40, 41, 42, 43, 44, 45, 46, 47, 48, 49], [0, 1, 2, 3, 4, 5, 6, 7, 8, 9, 10, 11, 12, 13, 14, 15, 16, 17, 18, 19, 20, 21, 22, 23, 24, 25, 26, 27, 28, 29, 30, 31, 32, 33, 34, 35, 36, 37, 38, 39, 40, 41, 42, 43, 44, 45, 46, 47, 48, 49, 50]] [(47, [u]), (49, [z]), (51, [l])] (by kernel_rfl) (by kernel_rfl) (by simp [apartW, unordB, cC] <;> omega)) | (apply Xg.s; constructor)) | (apply Ab.K.at_; exact at_) | (apply Ab.K.acall; first | assumption | fail) | (apply Ab.Rg.mk; omega) | (apply Ab.Lt.mk; first | decide | (simp; done) | (simp; omega) | (first | (rw [ints_length]; omega) | (simp; done))) | (apply Ab.Get.mk; first | rfl | exact ints_at (by assumption)) | (apply Ab.Nm.mk; first | exact nrm_) | (apply Xg.s; constructor) | (apply Ab.asm; assumption) | rfl | infer_instance | decide))
    all_goals ((first | apply RetQ.ret | apply RetQ.normal); (case he => exact evr_); (case hg => rfl))
    · rfl
    · simp only [ints_set]
      exact jset_keeps (by exact fr_) ⟨by exact at_, by exact at_, by exact at_, by rw [List.length_set, hl2]; exact at_⟩

theorem unite_spec {m : Int → Nat} {w : List Int} {s : AHeap} {j u z l c1 c2 c3 : Nat} {U S L : List Int} {k : Int} (h : JAt s j u z l c1 c2 c3 U S L k) (hi : JInv m U S L k w) (hsz : w.length ≤ 5000) (a b : Int) :
    ∃ m' U' S' L' k', ACall Try.prog 47 [.pointer (some ⟨j, 0, none⟩), .int .i64 a, .int .i64 b] s (.bool (runite w a b).2) (jset s j u z l c1 c2 c3 U' S' L' k') ∧ JInv m' U' S' L' k' (runite w a b).1 ∧ U'.length = U.length := by
  by_cases hab : (1 ≤ a ∧ a < U.length) ∧ (1 ≤ b ∧ b < U.length)
  · obtain ⟨ha, hb⟩ := hab
    have haU : In U a := ⟨by omega, ha.2⟩
    have haw : In w a := by simpa [In, hi.lu] using haU
    have hbU : In U b := ⟨by omega, hb.2⟩
    have hbw : In w b := by simpa [In, hi.lu] using hbU
    obtain ⟨j1, r1, r2, r3⟩ := hi.top haw
    obtain ⟨j2, q1, q2, q3⟩ := j1.top hbw
    have hsm := j1.same a b _ _ haw hbw r1 q2
    have hl2 : (topS (m b) (topS (m a) U a).1 b).1.length = U.length := by rw [j2.lu, hi.lu]
    have hra : rhas w a := ⟨ha.1, by rw [← hi.lu]; exact ha.2⟩
    have hrb : rhas w b := ⟨hb.1, by rw [← hi.lu]; exact hb.2⟩
    by_cases he : (topS (m a) U a).2 = (topS (m b) (topS (m a) U a).1 b).2
    · have hr : runite w a b = (w, false) := by
        have := hsm.1 he
        simp [runite, this]
      rw [hr]
      refine ⟨_, _, S, L, k, ?_, j2, hl2⟩
      rw [jset_u h hl2]
      exact unite_eq h hi ha hb he
    · have hne := he
      obtain ⟨p, q, hpq⟩ : ∃ p q, (g S (topS (m b) (topS (m a) U a).1 b).2 ≤ g S (topS (m a) U a).2 ∧ p = (topS (m a) U a).2 ∧ q = (topS (m b) (topS (m a) U a).1 b).2) ∨ (g S (topS (m a) U a).2 < g S (topS (m b) (topS (m a) U a).1 b).2 ∧ p = (topS (m b) (topS (m a) U a).1 b).2 ∧ q = (topS (m a) U a).2) := by
        rcases Int.lt_or_le (g S (topS (m a) U a).2) (g S (topS (m b) (topS (m a) U a).1 b).2) with hlt | hle
        · exact ⟨_, _, .inr ⟨hlt, rfl, rfl⟩⟩
        · exact ⟨_, _, .inl ⟨hle, rfl, rfl⟩⟩
      obtain ⟨m', jj, e2, i1, i2, i3, i4, i5, i6, i7⟩ := j2.join hra hrb (q3 a _ haw r1) q1 he (p := p) (q := q) (by rcases hpq with ⟨_, h1, h2⟩ | ⟨_, h1, h2⟩; exact .inl ⟨h1, h2⟩; exact .inr ⟨h1, h2⟩)
      refine ⟨m', _, _, _, _, ?_, jj, by rw [List.length_set, hl2]⟩
      rw [e2]
      exact unite_ne h hi hsz ha hb he rfl rfl rfl hpq (by simpa [In, hi.lu] using i1) (by simpa [In, hi.lu] using i2) i3 i4 (by omega) (by omega)
  · have hr : runite w a b = (w, false) := by
      unfold runite; rw [if_neg]; rintro ⟨x, y, _⟩
      exact hab ⟨⟨x.1, by rw [hi.lu]; exact x.2⟩, ⟨y.1, by rw [hi.lu]; exact y.2⟩⟩
    rw [hr]
    refine ⟨m, U, S, L, k, ?_, hi, rfl⟩
    rw [jset_self h]
    exact unite_no h hab
end Go.Proofs.Ytnbgeodignljfaa
