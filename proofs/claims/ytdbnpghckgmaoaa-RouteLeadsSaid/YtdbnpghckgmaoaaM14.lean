/- texts of this claim, one behind the other: TJ2, VA, TE. -/
import Derived.Test.YtdbnpghckgmaoaaM1
import Derived.Test.YtdbnpghckgmaoaaM13

/- trees: join, Unite (written by gen_tj.py from c06). -/
namespace Go.Proofs.Ytdbnpghckgmaoaa
set_option linter.unusedVariables false
set_option linter.unusedSimpArgs false
set_option linter.unusedSectionVars false
open Go.RowKit Ab JP
attribute [local irreducible] AOps AOpsD AOp AWp put nargs AHeap.set At Free ACall thenQ blockQ roundQ RetQ Src
def jCells (u z l n c1 c2 c3 : Nat) (k : Int) : List Value := [.slice (some ⟨u, 0, none⟩) n c1, .slice (some ⟨z, 0, none⟩) n c2, .slice (some ⟨l, 0, none⟩) n c3, .int .i64 k]
/-- A Join in memory. -/
structure JAt (s : AHeap) (j u z l c1 c2 c3 : Nat) (U S L : List Int) (k : Int) : Prop where
  hj : At s j (.cells true 1 (jCells u z l U.length c1 c2 c3 k))
  hu : At s u (.cells true 1 (ints U))
  hz : At s z (.cells true 1 (ints S))
  hl : At s l (.cells true 1 (ints L))
  ls : S.length = U.length
  ll : L.length = U.length
  ne : j ≠ u ∧ j ≠ z ∧ j ≠ l ∧ u ≠ z ∧ u ≠ l ∧ z ≠ l
def jset (s : AHeap) (j u z l c1 c2 c3 : Nat) (U S L : List Int) (k : Int) : AHeap :=
  updH s [(u, .cells true 1 (ints U)), (z, .cells true 1 (ints S)), (l, .cells true 1 (ints L)), (j, .cells true 1 (jCells u z l U.length c1 c2 c3 k))]

theorem JAt.setU {s : AHeap} {j u z l c1 c2 c3 : Nat} {U S L U' : List Int} {k : Int} (h : JAt s j u z l c1 c2 c3 U S L k) (hl : U'.length = U.length) : JAt (s.set u (.cells true 1 (ints U'))) j u z l c1 c2 c3 U' S L k := by
  obtain ⟨n1, n2, n3, n4, n5, n6⟩ := h.ne
  exact ⟨At.miss n1 (by rw [hl]; exact h.hj), At.hit, At.miss (Ne.symm n4) h.hz, At.miss (Ne.symm n5) h.hl, by rw [hl]; exact h.ls, by rw [hl]; exact h.ll, h.ne⟩

theorem jset_u {s : AHeap} {j u z l c1 c2 c3 : Nat} {U S L U' : List Int} {k : Int} (h : JAt s j u z l c1 c2 c3 U S L k) (hl : U'.length = U.length) : jset s j u z l c1 c2 c3 U' S L k = s.set u (.cells true 1 (ints U')) := by
  obtain ⟨n1, n2, n3, n4, n5, n6⟩ := h.ne
  unfold jset
  simp only [updH]
  rw [hl, set_self (i := j), set_self (i := l), set_self (i := z)]
  · exact (At.miss (Ne.symm n4) h.hz).eq
  · rw [set_self (At.miss (Ne.symm n4) h.hz).eq]; exact (At.miss (Ne.symm n5) h.hl).eq
  · rw [set_self (i := l), set_self (At.miss (Ne.symm n4) h.hz).eq]
    · exact (At.miss n1 h.hj).eq
    · rw [set_self (At.miss (Ne.symm n4) h.hz).eq]; exact (At.miss (Ne.symm n5) h.hl).eq
theorem jset_self {s : AHeap} {j u z l c1 c2 c3 : Nat} {U S L : List Int} {k : Int} (h : JAt s j u z l c1 c2 c3 U S L k) : jset s j u z l c1 c2 c3 U S L k = s := by
  rw [jset_u h rfl, set_self h.hu.eq]
theorem jset_at {s : AHeap} {j u z l c1 c2 c3 : Nat} {U S L : List Int} {k : Int} (hne : j ≠ u ∧ j ≠ z ∧ j ≠ l ∧ u ≠ z ∧ u ≠ l ∧ z ≠ l) (ls : S.length = U.length) (ll : L.length = U.length) : JAt (jset s j u z l c1 c2 c3 U S L k) j u z l c1 c2 c3 U S L k := by
  obtain ⟨n1, n2, n3, n4, n5, n6⟩ := hne
  exact ⟨At.hit, At.miss (Ne.symm n1) (At.miss n5 (At.miss n4 At.hit)), At.miss (Ne.symm n2) (At.miss n6 At.hit), At.miss (Ne.symm n3) At.hit, ls, ll, ⟨n1, n2, n3, n4, n5, n6⟩⟩
theorem jset_keeps {s s1 : AHeap} {j u z l c1 c2 c3 : Nat} {U S L : List Int} {k : Int} {v : Bool} (hf : Fr s1 s [u, z, l, j])
    (h : At s1 u (.cells true 1 (ints U)) ∧ At s1 z (.cells true 1 (ints S)) ∧ At s1 l (.cells true 1 (ints L)) ∧ At s1 j (.cells true 1 (jCells u z l U.length c1 c2 c3 k))) :
    Keeps s s1 (jset s j u z l c1 c2 c3 U S L k) (.bool v) := by
  refine Keeps.upd [(u, _), (z, _), (l, _), (j, _)] hf ⟨⟨h.1, nm_scal (ints_pl _)⟩, ⟨h.2.1, nm_scal (ints_pl _)⟩, ⟨h.2.2.1, nm_scal (ints_pl _)⟩, ⟨h.2.2.2, ?_⟩, trivial⟩ trivial
  intro x hx
  simp only [jCells, List.mem_cons, List.not_mem_nil, or_false] at hx
  rcases hx with rfl | rfl | rfl | rfl
  · exact updH_some (.inr (by simp))
  · exact updH_some (.inr (by simp))
  · exact updH_some (.inr (by simp))
  · trivial

theorem unite_no {s : AHeap} {j u z l c1 c2 c3 : Nat} {U S L : List Int} {k : Int} (h : JAt s j u z l c1 c2 c3 U S L k) {a b : Int} (ha : ¬ ((1 ≤ a ∧ a < U.length) ∧ (1 ≤ b ∧ b < U.length))) :
    ACall Try.prog 49 [.pointer (some ⟨j, 0, none⟩), .int .i64 a, .int .i64 b] s (.bool false) s := by
  have hj := h.hj
  unfold jCells at hj
  refine ACall.make Try.func49 rfl (by kernel_rfl) (by decide) rfl (fun N hN => ?_)
  by_cases h1 : 1 ≤ a ∧ a < U.length
  · have c1 := has_yes hj h1
    have c2 := has_no hj (a := b) (fun h2 => ha ⟨h1, h2⟩)
    (repeat' (first | (apply Ab.K.ev; exact ev_) | (apply Ab.K.aops; first | (apply Xg.s; constructor) | apply Ab.S.guardG) | (apply Ab.K.aop; first | (apply Og.s; constructor)) | (apply Ab.K.gk; first | (apply Xg.s; constructor) | (apply Ab.gY; case hw => assumption) | (apply Ab.gNT; case hw => assumption) | (apply Ab.gNF; case hw => assumption) | ((first | apply Ab.gD | apply Ab.gDN); all_goals (intro _ _; (first | contradiction | (exfalso; omega) | skip)))) | (apply Ab.K.awp; first | (apply Xg.s; constructor)) | (apply Ab.K.at_; exact at_) | (apply Ab.K.acall; first | assumption | fail) | (apply Ab.Rg.mk; omega) | (apply Ab.Lt.mk; first | decide | (simp; done) | (simp; omega) | fail) | (apply Ab.Get.mk; first | rfl | fail) | (apply Ab.Nm.mk; first | exact nrm_) | (apply Xg.s; constructor) | (apply Ab.asm; assumption) | rfl | infer_instance | decide))
    all_goals ((first | apply RetQ.ret | apply RetQ.normal); (case he => exact evr_); (case hg => rfl))
    · rfl
    · exact Keeps.self trivial
  · have c1 := has_no hj h1
    (repeat' (first | (apply Ab.K.ev; exact ev_) | (apply Ab.K.aops; first | (apply Xg.s; constructor) | apply Ab.S.guardG) | (apply Ab.K.aop; first | (apply Og.s; constructor)) | (apply Ab.K.gk; first | (apply Xg.s; constructor) | (apply Ab.gY; case hw => assumption) | (apply Ab.gNT; case hw => assumption) | (apply Ab.gNF; case hw => assumption) | ((first | apply Ab.gD | apply Ab.gDN); all_goals (intro _ _; (first | contradiction | (exfalso; omega) | skip)))) | (apply Ab.K.awp; first | (apply Xg.s; constructor)) | (apply Ab.K.at_; exact at_) | (apply Ab.K.acall; first | assumption | fail) | (apply Ab.Rg.mk; omega) | (apply Ab.Lt.mk; first | decide | (simp; done) | (simp; omega) | fail) | (apply Ab.Get.mk; first | rfl | fail) | (apply Ab.Nm.mk; first | exact nrm_) | (apply Xg.s; constructor) | (apply Ab.asm; assumption) | rfl | infer_instance | decide))
    all_goals ((first | apply RetQ.ret | apply RetQ.normal); (case he => exact evr_); (case hg => rfl))
    · rfl
    · exact Keeps.self trivial

theorem unite_eq {m : Int → Nat} {w : List Int} {s : AHeap} {j u z l c1 c2 c3 : Nat} {U S L : List Int} {k : Int} (h : JAt s j u z l c1 c2 c3 U S L k) (hi : JInv m U S L k w) {a b : Int} (ha : 1 ≤ a ∧ a < U.length) (hb : 1 ≤ b ∧ b < U.length)
    (he : (topS (m a) U a).2 = (topS (m b) (topS (m a) U a).1 b).2) :
    ACall Try.prog 49 [.pointer (some ⟨j, 0, none⟩), .int .i64 a, .int .i64 b] s (.bool false) (s.set u (.cells true 1 (ints (topS (m b) (topS (m a) U a).1 b).1))) := by
  have hj := h.hj
  have hu := h.hu
  obtain ⟨n1, n2, n3, n4, n5, n6⟩ := h.ne
  unfold jCells at hj
  have haU : In U a := ⟨by omega, ha.2⟩
  have haw : In w a := by simpa [In, hi.lu] using haU
  have hbU : In U b := ⟨by omega, hb.2⟩
  have hbw : In w b := by simpa [In, hi.lu] using hbU
  have c1 := has_yes hj ha
  have c2 := has_yes hj hb
  have c3 := top_spec (a := a) hi.wf haU n1 hj hu
  obtain ⟨j1, r1, r2, r3⟩ := hi.top haw
  have hU1 : In (topS (m a) U a).1 b := by simpa [In, j1.lu] using hbw
  have hl1 : (topS (m a) U a).1.length = U.length := by rw [j1.lu, hi.lu]
  have c4 := top_spec (s := s.set u (.cells true 1 (ints (topS (m a) U a).1))) (a := b) (c := _) (rest := _) (sz := _) j1.wf hU1 n1 (by rw [hl1]; exact At.miss n1 hj) At.hit
  refine ACall.make Try.func49 rfl (by kernel_rfl) (by decide) rfl (fun N hN => ?_)
  (repeat' (first | (apply Ab.K.ev; exact ev_) | (apply Ab.K.aops; first | (apply Xg.s; constructor) | apply Ab.S.guardG) | (apply Ab.K.aop; first | (apply Og.s; constructor)) | (apply Ab.K.gk; first | (apply Xg.s; constructor) | (apply Ab.gY; case hw => assumption) | (apply Ab.gNT; case hw => assumption) | (apply Ab.gNF; case hw => assumption) | ((first | apply Ab.gD | apply Ab.gDN); all_goals (intro _ _; (first | contradiction | (exfalso; omega) | skip)))) | (apply Ab.K.awp; first | (apply Xg.s; constructor)) | (apply Ab.K.at_; exact at_) | (apply Ab.K.acall; first | assumption | fail) | (apply Ab.Rg.mk; omega) | (apply Ab.Lt.mk; first | decide | (simp; done) | (simp; omega) | fail) | (apply Ab.Get.mk; first | rfl | fail) | (apply Ab.Nm.mk; first | exact nrm_) | (apply Xg.s; constructor) | (apply Ab.asm; assumption) | rfl | infer_instance | decide))
  all_goals ((first | apply RetQ.ret | apply RetQ.normal); (case he => exact evr_); (case hg => rfl))
  · rfl
  · exact Keeps.upd [(u, _)] (by exact fr_) ⟨⟨by exact at_, nm_scal (ints_pl _)⟩, trivial⟩ trivial

set_option maxHeartbeats 4000000 in
theorem unite_ne {m : Int → Nat} {w : List Int} {s : AHeap} {j u z l c1 c2 c3 : Nat} {U S L : List Int} {k : Int} (h : JAt s j u z l c1 c2 c3 U S L k) (hi : JInv m U S L k w) (hsz : w.length ≤ 5000) {a b : Int} (ha : 1 ≤ a ∧ a < U.length) (hb : 1 ≤ b ∧ b < U.length)
    (he : (topS (m a) U a).2 ≠ (topS (m b) (topS (m a) U a).1 b).2) {ra rb : Int} {U2 : List Int} (era : (topS (m a) U a).2 = ra) (erb : (topS (m b) (topS (m a) U a).1 b).2 = rb) (eU : (topS (m b) (topS (m a) U a).1 b).1 = U2)
    {p q : Int} (hpq : (g S rb ≤ g S ra ∧ p = ra ∧ q = rb) ∨ (g S ra < g S rb ∧ p = rb ∧ q = ra)) (hip : In U p) (hiq : In U q) (hp0 : 0 ≤ g S p) (hq0 : 0 ≤ g S q) (hs : g S p + g S q ≤ 5000) (hk : 1 ≤ k ∧ k ≤ 5000) :
    ACall Try.prog 49 [.pointer (some ⟨j, 0, none⟩), .int .i64 a, .int .i64 b] s (.bool true)
      (jset s j u z l c1 c2 c3 (U2.set q.toNat p) (S.set p.toNat (g S p + g S q)) (L.set p.toNat (if g L q < g L p then g L q else g L p)) (k - 1)) := by
  have hj := h.hj
  have hu := h.hu
  have hz := h.hz
  have hl := h.hl
  have lS := h.ls
  have lL := h.ll
  obtain ⟨n1, n2, n3, n4, n5, n6⟩ := h.ne
  unfold jCells at hj
  have haU : In U a := ⟨by omega, ha.2⟩
  have haw : In w a := by simpa [In, hi.lu] using haU
  have hbU : In U b := ⟨by omega, hb.2⟩
  have hbw : In w b := by simpa [In, hi.lu] using hbU
  have c1 := has_yes hj ha
  have c2 := has_yes hj hb
  have c3 := top_spec (a := a) hi.wf haU n1 hj hu
  obtain ⟨j1, r1, r2, r3⟩ := hi.top haw
  have hU1 : In (topS (m a) U a).1 b := by simpa [In, j1.lu] using hbw
  have hl1 : (topS (m a) U a).1.length = U.length := by rw [j1.lu, hi.lu]
  have c4 := top_spec (s := s.set u (.cells true 1 (ints (topS (m a) U a).1))) (a := b) (c := _) (rest := _) (sz := _) j1.wf hU1 n1 (by rw [hl1]; exact At.miss n1 hj) At.hit
  obtain ⟨j2, q1, q2, q3⟩ := j1.top hbw
  have hl2 : U2.length = U.length := by rw [← eU, j2.lu, hi.lu]
  rw [eU] at c4
  rw [erb] at c4 he
  rw [era] at c3 he
  clear j1 j2 r1 r2 r3 q1 q2 q3 hU1 hl1 eU era erb
  have pS : In S p := by simpa [In, lS] using hip
  have qS : In S q := by simpa [In, lS] using hiq
  have pL : In L p := by simpa [In, lL] using hip
  have qL : In L q := by simpa [In, lL] using hiq
  have qU2 : In U2 q := by simpa [In, hl2] using hiq
  have b1 := hip.1
  have b2 := hip.2
  have b3 := hiq.1
  have b4 := hiq.2
  refine ACall.make Try.func49 rfl (by kernel_rfl) (by decide) rfl (fun N hN => ?_)




  rcases hpq with ⟨hg, rfl, rfl⟩ | ⟨hg, rfl, rfl⟩
  · (repeat' (first | (apply Ab.K.ev; exact ev_) | (apply Ab.K.aops; first | (apply Xg.s; constructor) | apply Ab.S.guardG) | (apply Ab.K.aop; first | (apply Ab.O.min2) | (apply Og.s; constructor)) | (apply Ab.K.gk; first | (apply Xg.s; constructor) | (apply Ab.gY; case hw => assumption) | (apply Ab.gNT; case hw => assumption) | (apply Ab.gNF; case hw => assumption) | ((first | apply Ab.gD | apply Ab.gDN); all_goals (intro _ _; (first | contradiction | (exfalso; omega) | skip)))) | (apply Ab.K.aopsD; first | (apply Ab.D.q0t; (case hw => rfl); (case hot => rfl)) | (apply Ab.D.w1t; (case hw => rfl); (case hot => rfl)) | (apply Ab.D.q0; (case hw => rfl); intro _ _) | (apply Ab.D.w1n; (case hw => rfl); intro _ _) | (apply Ab.D.w2n; (case hw => rfl); intro _ _) | (apply Xg.s; constructor) | fail | apply Ab.D.guardG) | exact ⟨rfl, rfl⟩ | (apply Ab.K.awp; first | (apply AWp.draw (id := 6) [[], [0], [0, 1], [0, 1, 2], [], [0, 1, 2, 3, 4], [0, 1, 2, 3, 4, 5], [], [7], [7, 8], [7, 8, 9], [], [7, 8, 9, 10, 11], [7, 8, 9, 10, 11, 12], [0, 1, 2, 3, 4, 5, 6, 7, 8, 9, 10, 11, 12, 13]] [] (by kernel_rfl) (by kernel_rfl) (by simp [apartW, unordB, cC] <;> omega)) | (apply AWp.draw (id := 8) [[], [0], [0, 1], [0, 1, 2], [], [], [5], [5, 6], [5, 6, 7], [], [], [10], [10, 11], [10, 11, 12], [], [], [], [16], [16, 17], [16, 17, 18], [], [16, 17, 18, 19, 20], [16, 17, 18, 19, 20, 21], [], [23], [23, 24], [23, 24, 25], [], [23, 24, 25, 26, 27], [23, 24, 25, 26, 27, 28], [16, 17, 18, 19, 20, 21, 22, 23, 24, 25, 26, 27, 28, 29], [], [31], [31, 32], [31, 32, 33], [], [31, 32, 33, 34, 35], [31, 32, 33, 34, 35, 36], [], [38], [38, 39], [38, 39, 40], [], [38, 39, 40, 41, 42], [38, 39, 40, 41, 42, 43], [31, 32, 33, 34, 35, 36, 37, 38, 39, 40, 41, 42, 43, 44], [0, 1, 2, 3, 4, 5, 6, 7, 8, 10, 11, 12, 13, 15, 16, 17, 18, 19, 20, 21, 22, 23, 24, 25, 26, 27, 28, 29, 31, 32, 33, 34, 35, 36, 37, 38, 39, 40, 41, 42, 43, 44], [0, 1, 2, 3, 4, 5, 6, 7, 8, 10, 11, 12, 13, 15, 16, 17, 18, 19, 20, 21, 22, 23, 24, 25, 26, 27, 28, 29, 31, 32, 33, 34, 35, 36, 37, 38, 39, 40, 41, 42, 43, 44, 46], [0, 1, 2, 3, 4, 5, 6, 7, 8, 9, 10, 11, 12, 13, 15, 16, 17, 18, 19, 20, 21, 22, 23, 24, 25, 26, 27, 28, 29, 30, 31, 32, 33, 34, 35, 36, 37, 38, 39, 40, 41, 42, 43, 44, 46, 47], [0, 1, 2, 3, 4, 5, 6, 7, 8, 9, 10, 11, 12, 13, 15, 16, 17, 18, 19, 20, 21, 22, 23, 24, 25, 26, 27, 28, 29, 30, 31, 32, 33, 34, 35, 36, 37, 38, 39, 40, 41, 42, 43, 44, 46, 47, 48], [0, 1, 2, 3, 4, 5, 6, 7, 8, 9, 10, 11, 12, 13, 14, 15, 16, 17, 18, 19, 20, 21, 22, 23, 24, 25, 26, 27, 28, 29, 30, 31, 32, 33, 34, 35, 36, 37, 38, 39, 40, 41, 42, 43, 44, 45, 46, 47, 48, 49], [0, 1, 2, 3, 4, 5, 6, 7, 8, 9, 10, 11, 12, 13, 14, 15, 16, 17, 18, 19, 20, 21, 22, 23, 24, 25, 26, 27, 28, 29, 30, 31, 32, 33, 34, 35, 36, 37, 38, 39, 40, 41, 42, 43, 44, 45, 46, 47, 48, 49, 50]] [(47, [u]), (49, [z]), (51, [l])] (by kernel_rfl) (by kernel_rfl) (by simp [apartW, unordB, cC] <;> omega)) | (apply Xg.s; constructor)) | (apply Ab.K.at_; exact at_) | (apply Ab.K.acall; first | assumption | fail) | (apply Ab.Rg.mk; omega) | (apply Ab.Lt.mk; first | decide | (simp; done) | (simp; omega) | (first | (rw [ints_length]; omega) | (simp; done))) | (apply Ab.Get.mk; first | rfl | exact ints_at (by assumption)) | (apply Ab.Nm.mk; first | exact nrm_) | (apply Xg.s; constructor) | (apply Ab.asm; assumption) | rfl | infer_instance | decide))
    all_goals ((first | apply RetQ.ret | apply RetQ.normal); (case he => exact evr_); (case hg => rfl))
    · rfl
    · simp only [ints_set]
      exact jset_keeps (by exact fr_) ⟨by exact at_, by exact at_, by exact at_, by rw [List.length_set, hl2]; exact at_⟩
  · (repeat' (first | (apply Ab.K.ev; exact ev_) | (apply Ab.K.aops; first | (apply Xg.s; constructor) | apply Ab.S.guardG) | (apply Ab.K.aop; first | (apply Ab.O.min2) | (apply Og.s; constructor)) | (apply Ab.K.gk; first | (apply Xg.s; constructor) | (apply Ab.gY; case hw => assumption) | (apply Ab.gNT; case hw => assumption) | (apply Ab.gNF; case hw => assumption) | ((first | apply Ab.gD | apply Ab.gDN); all_goals (intro _ _; (first | contradiction | (exfalso; omega) | skip)))) | (apply Ab.K.aopsD; first | (apply Ab.D.q0t; (case hw => rfl); (case hot => rfl)) | (apply Ab.D.w1t; (case hw => rfl); (case hot => rfl)) | (apply Ab.D.q0; (case hw => rfl); intro _ _) | (apply Ab.D.w1n; (case hw => rfl); intro _ _) | (apply Ab.D.w2n; (case hw => rfl); intro _ _) | (apply Xg.s; constructor) | fail | apply Ab.D.guardG) | exact ⟨rfl, rfl⟩ | (apply Ab.K.awp; first | (apply AWp.draw (id := 6) [[], [0], [0, 1], [0, 1, 2], [], [0, 1, 2, 3, 4], [0, 1, 2, 3, 4, 5], [], [7], [7, 8], [7, 8, 9], [], [7, 8, 9, 10, 11], [7, 8, 9, 10, 11, 12], [0, 1, 2, 3, 4, 5, 6, 7, 8, 9, 10, 11, 12, 13]] [] (by kernel_rfl) (by kernel_rfl) (by simp [apartW, unordB, cC] <;> omega)) | (apply AWp.draw (id := 8) [[], [0], [0, 1], [0, 1, 2], [], [], [5], [5, 6], [5, 6, 7], [], [], [10], [10, 11], [10, 11, 12], [], [], [], [16], [16, 17], [16, 17, 18], [], [16, 17, 18, 19, 20], [16, 17, 18, 19, 20, 21], [], [23], [23, 24], [23, 24, 25], [], [23, 24, 25, 26, 27], [23, 24, 25, 26, 27, 28], [16, 17, 18, 19, 20, 21, 22, 23, 24, 25, 26, 27, 28, 29], [], [31], [31, 32], [31, 32, 33], [], [31, 32, 33, 34, 35], [31, 32, 33, 34, 35, 36], [], [38], [38, 39], [38, 39, 40], [], [38, 39, 40, 41, 42], [38, 39, 40, 41, 42, 43], [31, 32, 33, 34, 35, 36, 37, 38, 39, 40, 41, 42, 43, 44], [0, 1, 2, 3, 4, 5, 6, 7, 8, 10, 11, 12, 13, 15, 16, 17, 18, 19, 20, 21, 22, 23, 24, 25, 26, 27, 28, 29, 31, 32, 33, 34, 35, 36, 37, 38, 39, 40, 41, 42, 43, 44], [0, 1, 2, 3, 4, 5, 6, 7, 8, 10, 11, 12, 13, 15, 16, 17, 18, 19, 20, 21, 22, 23, 24, 25, 26, 27, 28, 29, 31, 32, 33, 34, 35, 36, 37, 38, 39, 40, 41, 42, 43, 44, 46], [0, 1, 2, 3, 4, 5, 6, 7, 8, 9, 10, 11, 12, 13, 15, 16, 17, 18, 19, 20, 21, 22, 23, 24, 25, 26, 27, 28, 29, 30, 31, 32, 33, 34, 35, 36, 37, 38, 39, 40, 41, 42, 43, 44, 46, 47], [0, 1, 2, 3, 4, 5, 6, 7, 8, 9, 10, 11, 12, 13, 15, 16, 17, 18, 19, 20, 21, 22, 23, 24, 25, 26, 27, 28, 29, 30, 31, 32, 33, 34, 35, 36, 37, 38, 39, 40, 41, 42, 43, 44, 46, 47, 48], [0, 1, 2, 3, 4, 5, 6, 7, 8, 9, 10, 11, 12, 13, 14, 15, 16, 17, 18, 19, 20, 21, 22, 23, 24, 25, 26, 27, 28, 29, 30, 31, 32, 33, 34, 35, 36, 37, 38, 39, 40, 41, 42, 43, 44, 45, 46, 47, 48, 49], [0, 1, 2, 3, 4, 5, 6, 7, 8, 9, 10, 11, 12, 13, 14, 15, 16, 17, 18, 19, 20, 21, 22, 23, 24, 25, 26, 27, 28, 29, 30, 31, 32, 33, 34, 35, 36, 37, 38, 39, 40, 41, 42, 43, 44, 45, 46, 47, 48, 49, 50]] [(47, [u]), (49, [z]), (51, [l])] (by kernel_rfl) (by kernel_rfl) (by simp [apartW, unordB, cC] <;> omega)) | (apply Xg.s; constructor)) | (apply Ab.K.at_; exact at_) | (apply Ab.K.acall; first | assumption | fail) | (apply Ab.Rg.mk; omega) | (apply Ab.Lt.mk; first | decide | (simp; done) | (simp; omega) | (first | (rw [ints_length]; omega) | (simp; done))) | (apply Ab.Get.mk; first | rfl | exact ints_at (by assumption)) | (apply Ab.Nm.mk; first | exact nrm_) | (apply Xg.s; constructor) | (apply Ab.asm; assumption) | rfl | infer_instance | decide))
    all_goals ((first | apply RetQ.ret | apply RetQ.normal); (case he => exact evr_); (case hg => rfl))
    · rfl
    · simp only [ints_set]
      exact jset_keeps (by exact fr_) ⟨by exact at_, by exact at_, by exact at_, by rw [List.length_set, hl2]; exact at_⟩

theorem unite_spec {m : Int → Nat} {w : List Int} {s : AHeap} {j u z l c1 c2 c3 : Nat} {U S L : List Int} {k : Int} (h : JAt s j u z l c1 c2 c3 U S L k) (hi : JInv m U S L k w) (hsz : w.length ≤ 5000) (a b : Int) :
    ∃ m' U' S' L' k', ACall Try.prog 49 [.pointer (some ⟨j, 0, none⟩), .int .i64 a, .int .i64 b] s (.bool (runite w a b).2) (jset s j u z l c1 c2 c3 U' S' L' k') ∧ JInv m' U' S' L' k' (runite w a b).1 ∧ U'.length = U.length := by
  by_cases hab : (1 ≤ a ∧ a < U.length) ∧ (1 ≤ b ∧ b < U.length)
  · obtain ⟨ha, hb⟩ := hab
    have haU : In U a := ⟨by omega, ha.2⟩
    have haw : In w a := by simpa [In, hi.lu] using haU
    have hbU : In U b := ⟨by omega, hb.2⟩
    have hbw : In w b := by simpa [In, hi.lu] using hbU
    obtain ⟨j1, r1, r2, r3⟩ := hi.top haw
    obtain ⟨j2, q1, q2, q3⟩ := j1.top hbw
    have hsm := j1.same a b _ _ haw hbw r1 q2
    have hl2 : (topS (m b) (topS (m a) U a).1 b).1.length = U.length := by rw [j2.lu, hi.lu]
    have hra : rhas w a := ⟨ha.1, by rw [← hi.lu]; exact ha.2⟩
    have hrb : rhas w b := ⟨hb.1, by rw [← hi.lu]; exact hb.2⟩
    by_cases he : (topS (m a) U a).2 = (topS (m b) (topS (m a) U a).1 b).2
    · have hr : runite w a b = (w, false) := by
        have := hsm.1 he
        simp [runite, this]
      rw [hr]
      refine ⟨_, _, S, L, k, ?_, j2, hl2⟩
      rw [jset_u h hl2]
      exact unite_eq h hi ha hb he
    · have hne := he
      obtain ⟨p, q, hpq⟩ : ∃ p q, (g S (topS (m b) (topS (m a) U a).1 b).2 ≤ g S (topS (m a) U a).2 ∧ p = (topS (m a) U a).2 ∧ q = (topS (m b) (topS (m a) U a).1 b).2) ∨ (g S (topS (m a) U a).2 < g S (topS (m b) (topS (m a) U a).1 b).2 ∧ p = (topS (m b) (topS (m a) U a).1 b).2 ∧ q = (topS (m a) U a).2) := by
        rcases Int.lt_or_le (g S (topS (m a) U a).2) (g S (topS (m b) (topS (m a) U a).1 b).2) with hlt | hle
        · exact ⟨_, _, .inr ⟨hlt, rfl, rfl⟩⟩
        · exact ⟨_, _, .inl ⟨hle, rfl, rfl⟩⟩
      obtain ⟨m', jj, e2, i1, i2, i3, i4, i5, i6, i7⟩ := j2.join hra hrb (q3 a _ haw r1) q1 he (p := p) (q := q) (by rcases hpq with ⟨_, h1, h2⟩ | ⟨_, h1, h2⟩; exact .inl ⟨h1, h2⟩; exact .inr ⟨h1, h2⟩)
      refine ⟨m', _, _, _, _, ?_, jj, by rw [List.length_set, hl2]⟩
      rw [e2]
      exact unite_ne h hi hsz ha hb he rfl rfl rfl hpq (by simpa [In, hi.lu] using i1) (by simpa [In, hi.lu] using i2) i3 i4 (by omega) (by omega)
  · have hr : runite w a b = (w, false) := by
      unfold runite; rw [if_neg]; rintro ⟨x, y, _⟩
      exact hab ⟨⟨x.1, by rw [hi.lu]; exact x.2⟩, ⟨y.1, by rw [hi.lu]; exact y.2⟩⟩
    rw [hr]
    refine ⟨m, U, S, L, k, ?_, hi, rfl⟩
    rw [jset_self h]
    exact unite_no h hab
end Go.Proofs.Ytdbnpghckgmaoaa

/- views: links in memory, their order, small functions. -/
namespace Go.Proofs.Ytdbnpghckgmaoaa
set_option linter.unusedVariables false
set_option linter.unusedSimpArgs false
set_option linter.unusedSectionVars false
open Go.RowKit Ab TP VP
instance : HasPl Try.prog 25 [(0, 1), (1, 1)] := ⟨by kernel_rfl⟩
instance : HasTD Try.prog 25 ⟨.struct [(0, 22), (1, 23)], 2, 48, .agg #[.slice none 0 0, .slice none 0 0]⟩ := ⟨by kernel_rfl⟩
instance : HasPl Try.prog 56 [(0, 1), (1, 1), (2, 1), (3, 1), (4, 1)] := ⟨by kernel_rfl⟩
instance : HasTD Try.prog 56 ⟨.struct [(0, 3), (1, 3), (2, 3), (3, 3), (4, 4)], 5, 40, .agg #[.int .i64 0, .int .i64 0, .int .i64 0, .int .i64 0, .bool false]⟩ := ⟨by kernel_rfl⟩
instance : HasTD Try.prog 23 ⟨.slice 56, 1, 24, .slice none 0 0⟩ := ⟨by kernel_rfl⟩
instance : HasTD Try.prog 34 ⟨.slice 43, 1, 24, .slice none 0 0⟩ := ⟨by kernel_rfl⟩

/-- A link's cells. -/
def kc (k : Kn) : List Value := [.int .i64 k.node, .int .i64 k.peer, .int .i64 k.w, .int .i64 k.ss, .bool k.md]
def kcs (l : List Kn) : List Value := l.flatMap kc
theorem kcs_length (l : List Kn) : (kcs l).length = l.length * 5 := by
  unfold kcs
  induction l with
  | nil => rfl
  | cons e l ih => rw [List.flatMap_cons, List.length_append, ih, List.length_cons]; show 5 + _ = _; omega
theorem kcs_append (a b : List Kn) : kcs (a ++ b) = kcs a ++ kcs b := by simp [kcs]
theorem kcs_pl (l : List Kn) : (kcs l).all pl1 = true := by simp [kcs, kc, pl1, plA]
theorem kcs_get {l : List Kn} {i : Nat} {e : Kn} (h : l[i]? = some e) : ((kcs l).drop (i * 5)).take 5 = kc e := by
  induction l generalizing i with
  | nil => simp at h
  | cons f l ih =>
    cases i with
    | zero => simp at h; subst h; simp [kcs, kc]
    | succ i =>
      rw [List.getElem?_cons_succ] at h
      have e1 : (i + 1) * 5 = 5 + i * 5 := by omega
      have e2 : kcs (f :: l) = kc f ++ kcs l := by simp [kcs]
      rw [e1, e2, ← List.drop_drop, show (kc f ++ kcs l).drop 5 = kcs l from rfl]
      exact ih h
theorem kcs_cell {l : List Kn} {i : Nat} {e : Kn} (h : l[i]? = some e) (j : Nat) (hj : j < 5) : (kcs l)[i * 5 + j]? = (kc e)[j]? := by
  rw [← kcs_get h, List.getElem?_take, if_pos hj, List.getElem?_drop]
/-! ### links in memory -/
inductive KA (s : AHeap) : Value → Option Nat → List Kn → Prop
  | nil : KA s (.slice none 0 0) none []
  | blk {q c : Nat} {rw : Bool} {cs : List Value} {l : List Kn} (h : At s q (.cells rw 5 cs)) (hn : l.length ≤ c) (hx : cs.take (l.length * 5) = kcs l) : KA s (.slice (some ⟨q, 0, none⟩) l.length c) (some q) l
namespace KA
variable {s s' : AHeap} {v : Value} {on : Option Nat} {l : List Kn}
theorem isl (h : KA s v on l) : ∃ A c, v = .slice A l.length c := by
  cases h with
  | nil => exact ⟨_, _, rfl⟩
  | blk => exact ⟨_, _, rfl⟩
theorem of_at (h : KA s v on l) (hs : ∀ o, on = some o → s' o = s o) : KA s' v on l := by
  cases h with
  | nil => exact .nil
  | blk h a b => exact .blk (by unfold At; rw [hs _ rfl]; exact h.eq) a b
theorem lt {M : Nat} (h : KA s v on l) (hT : Top M s) : ∀ o, on = some o → o < M := by
  cases h with
  | nil => intro o e; cases e
  | blk h a b => intro o e; obtain rfl := Option.some.inj e; exact hT.lt h
theorem fr {s1 : AHeap} (h : KA s v on l) (F : Fr s1 s []) : KA s1 v on l := by
  cases h with
  | nil => exact .nil
  | blk h a b => exact .blk (At.var (F _ (by simp) _ h.eq)) a b
theorem own {q : Nat} (h : At s q (.cells true 5 (kcs l))) : KA s (.slice (some ⟨q, 0, none⟩) l.length l.length) (some q) l :=
  .blk h (Nat.le_refl _) (by rw [← kcs_length, List.take_length])
theorem addr {A : Option Addr} {n c : Nat} (h : KA s (.slice A n c) on l) : A = none ∨ ∃ q, A = some ⟨q, 0, none⟩ := by
  cases h with
  | nil => exact .inl rfl
  | blk => exact .inr ⟨_, rfl⟩
theorem elt {A : Option Addr} {c n : Nat} (h : KA s (.slice A n c) on l) {i : Nat} {e : Kn} (hi : l[i]? = some e) : ∃ q rw cs, A = some ⟨q, 0, none⟩ ∧ on = some q ∧ n = l.length ∧ At s q (.cells rw 5 cs) ∧ i * 5 + 5 ≤ cs.length ∧ (cs.drop (i * 5)).take 5 = kc e ∧
    ∀ j, j < 5 → cs[i * 5 + j]? = (kc e)[j]? := by
  cases h with
  | nil => simp at hi
  | @blk q _ rw cs _ h a b =>
    have hlt := (List.getElem?_eq_some_iff.1 hi).1
    have hlen : l.length * 5 ≤ cs.length := by
      have := congrArg List.length b
      rw [List.length_take, kcs_length] at this
      omega
    refine ⟨q, rw, cs, rfl, rfl, rfl, h, by omega, ?_, fun j hj => by rw [← kcs_cell hi j hj, ← b, List.getElem?_take, if_pos (by omega)]⟩
    rw [← kcs_get hi, ← b]
    apply List.ext_getElem?
    intro j
    rw [List.getElem?_take, List.getElem?_take, List.getElem?_drop, List.getElem?_drop, List.getElem?_take]
    split
    · rw [if_pos (by omega)]
    · rfl
end KA
attribute [local irreducible] AOps AOpsD AOp AWp put nargs AHeap.set At Free ACall ACallE thenQ blockQ roundQ RetQ RetE Src

/-! ### small functions -/

theorem ahead09 {s : AHeap} {a b : Kn} : ACall Try.prog 42 [.agg (kc a).toArray, .agg (kc b).toArray] s (.bool (decide (VP.ahead a b))) s := by
  obtain ⟨a0, a1, a2, a3, a4⟩ := a
  obtain ⟨b0, b1, b2, b3, b4⟩ := b
  unfold VP.ahead
  simp only
  (refine ACall.make Try.func42 rfl (by kernel_rfl) (by decide) rfl (fun N hN => ?_); have hT : Top N _ := hN; (repeat' (first | (apply Ab.K.ev; exact ev_) | (apply Ab.K.aops; first | (apply Xg.s; constructor) | (apply Ab.S.guardU; (case hd => rfl); (case hb => (exact ev_; done))) | apply Ab.S.guardG) | (apply Ab.K.aop; first | (apply Ab.O.boxA (N + 0); (case hx => exact ev_); (case hid => exact frees_)) | (apply Ab.O.boxA (N + 1); (case hx => exact ev_); (case hid => exact frees_)) | (apply Og.s; constructor)) | (apply Ab.K.gk; first | (apply Xg.s; constructor) | (apply Ab.gY; case hw => assumption) | (apply Ab.gNT; case hw => assumption) | (apply Ab.gNF; case hw => assumption) | ((first | apply Ab.gD | apply Ab.gDN); all_goals (intro _ _; (first | contradiction | (exfalso; omega) | skip)))) | (apply Ab.K.awp; first | (apply Xg.s; constructor)) | (apply Ab.K.at_; exact at_) | (apply Ab.K.acall; first | assumption | fail) | (apply Ab.Rg.mk; omega) | (apply Ab.Lt.mk; first | decide | (simp; done) | (simp; omega) | fail) | (apply Ab.Get.mk; first | rfl | fail) | (apply Ab.Nm.mk; first | exact nrm_) | (apply Xg.s; constructor) | (apply Ab.asm; assumption) | rfl | infer_instance | decide)); (all_goals ((first | apply RetQ.ret | apply RetQ.normal); (case he => exact evr_); (case hg => rfl))); (all_goals first | rfl | (apply Keeps.fr; (case h => exact fr_); (case hv => exact plR.nm rfl)) | (exact bdec (by grind))))
theorem edge09 {s : AHeap} {k : Kn} : ACall Try.prog 29 [.agg (kc k).toArray] s (.agg (ec (edg k)).toArray) s := by
  obtain ⟨a0, a1, a2, a3, a4⟩ := k
  unfold edg
  simp only
  by_cases h : a1 < a0
  · rw [if_pos h]
    (refine ACall.make Try.func29 rfl (by kernel_rfl) (by decide) rfl (fun N hN => ?_); have hT : Top N _ := hN; (repeat' (first | (apply Ab.K.ev; exact ev_) | (apply Ab.K.aops; first | (apply Xg.s; constructor) | (apply Ab.S.guardU; (case hd => rfl); (case hb => (exact ev_; done))) | apply Ab.S.guardG) | (apply Ab.K.aop; first | (first | (apply Ab.O.boxA (N + 0); (case hx => exact ev_); (case hid => exact frees_)) | (apply Ab.O.allocA (l := ec ⟨0, 0, 0⟩) (N + 1); (case hid => exact frees_); (case hp => rfl)) | (apply Ab.O.storeAll; (case hz => rfl); (case hx => exact ev_); (case hy => exact ev_); (case hs => exact at_); (case hl => rfl); (case hc => rfl))) | (apply Og.s; constructor)) | (apply Ab.K.gk; first | (apply Xg.s; constructor) | (apply Ab.gY; case hw => assumption) | (apply Ab.gNT; case hw => assumption) | (apply Ab.gNF; case hw => assumption) | ((first | apply Ab.gD | apply Ab.gDN); all_goals (intro _ _; (first | contradiction | (exfalso; omega) | skip)))) | (apply Ab.K.awp; first | (apply Xg.s; constructor)) | (apply Ab.K.at_; exact at_) | (apply Ab.K.acall; first | assumption | fail) | (apply Ab.Rg.mk; omega) | (apply Ab.Lt.mk; first | decide | (simp; done) | (simp; omega) | fail) | (apply Ab.Get.mk; first | rfl | fail) | (apply Ab.Nm.mk; first | exact nrm_) | (apply Xg.s; constructor) | (apply Ab.asm; assumption) | rfl | infer_instance | decide)); (all_goals ((first | apply RetQ.ret | apply RetQ.normal); (case he => exact evr_); (case hg => rfl))); (all_goals first | rfl | (apply Keeps.fr; (case h => exact fr_); (case hv => exact plR.nm rfl)) | fail))
  · rw [if_neg h]
    (refine ACall.make Try.func29 rfl (by kernel_rfl) (by decide) rfl (fun N hN => ?_); have hT : Top N _ := hN; (repeat' (first | (apply Ab.K.ev; exact ev_) | (apply Ab.K.aops; first | (apply Xg.s; constructor) | (apply Ab.S.guardU; (case hd => rfl); (case hb => (exact ev_; done))) | apply Ab.S.guardG) | (apply Ab.K.aop; first | (first | (apply Ab.O.boxA (N + 0); (case hx => exact ev_); (case hid => exact frees_)) | (apply Ab.O.allocA (l := ec ⟨0, 0, 0⟩) (N + 1); (case hid => exact frees_); (case hp => rfl)) | (apply Ab.O.storeAll; (case hz => rfl); (case hx => exact ev_); (case hy => exact ev_); (case hs => exact at_); (case hl => rfl); (case hc => rfl))) | (apply Og.s; constructor)) | (apply Ab.K.gk; first | (apply Xg.s; constructor) | (apply Ab.gY; case hw => assumption) | (apply Ab.gNT; case hw => assumption) | (apply Ab.gNF; case hw => assumption) | ((first | apply Ab.gD | apply Ab.gDN); all_goals (intro _ _; (first | contradiction | (exfalso; omega) | skip)))) | (apply Ab.K.awp; first | (apply Xg.s; constructor)) | (apply Ab.K.at_; exact at_) | (apply Ab.K.acall; first | assumption | fail) | (apply Ab.Rg.mk; omega) | (apply Ab.Lt.mk; first | decide | (simp; done) | (simp; omega) | fail) | (apply Ab.Get.mk; first | rfl | fail) | (apply Ab.Nm.mk; first | exact nrm_) | (apply Xg.s; constructor) | (apply Ab.asm; assumption) | rfl | infer_instance | decide)); (all_goals ((first | apply RetQ.ret | apply RetQ.normal); (case he => exact evr_); (case hg => rfl))); (all_goals first | rfl | (apply Keeps.fr; (case h => exact fr_); (case hv => exact plR.nm rfl)) | fail))
theorem edgeV {s : AHeap} {k : Kn} (hne : k.node ≠ k.peer) : ACall Try.prog 44 [.agg (kc k).toArray] s (.agg (ec (edg k)).toArray) s := by
  obtain ⟨a0, a1, a2, a3, a4⟩ := k
  unfold edg
  simp only at *
  by_cases h : a1 < a0
  · rw [if_pos h]
    have e1 : (if a1 < a0 then a1 else a0) = a1 := if_pos h
    have e2 : (if a1 > a0 then a1 else a0) = a0 := if_neg (by omega)
    refine ACall.make Try.func44 rfl (by kernel_rfl) (by decide) rfl (fun N hN => ?_)
    have hT : Top N s := hN
    (repeat' (first | (apply Ab.K.ev; exact ev_) | (apply Ab.K.aops; first | (apply Xg.s; constructor) | (apply Ab.S.guardU; (case hd => rfl); (case hb => (exact ev_; done))) | apply Ab.S.guardG) | (apply Ab.K.aop; first | (first | (apply Ab.O.boxA (N + 0); (case hx => exact ev_); (case hid => exact frees_)) | (apply Ab.O.min2) | (apply Ab.O.max2) | (apply Ab.O.allocA (l := ec ⟨0, 0, 0⟩) (N + 1); (case hid => exact frees_); (case hp => rfl)) | (apply Ab.O.storeAll; (case hz => rfl); (case hx => exact ev_); (case hy => exact ev_); (case hs => exact at_); (case hl => rfl); (case hc => rfl))) | (apply Og.s; constructor)) | (apply Ab.K.gk; first | (apply Xg.s; constructor) | (apply Ab.gY; case hw => assumption) | (apply Ab.gNT; case hw => assumption) | (apply Ab.gNF; case hw => assumption) | ((first | apply Ab.gD | apply Ab.gDN); all_goals (intro _ _; (first | contradiction | (exfalso; omega) | skip)))) | (apply Ab.K.awp; first | (apply Xg.s; constructor)) | (apply Ab.K.at_; exact at_) | (apply Ab.K.acall; first | assumption | fail) | (apply Ab.Rg.mk; omega) | (apply Ab.Lt.mk; first | decide | (simp; done) | (simp; omega) | fail) | (apply Ab.Get.mk; first | rfl | fail) | (apply Ab.Nm.mk; first | exact nrm_) | (apply Xg.s; constructor) | (apply Ab.asm; assumption) | rfl | infer_instance | decide))
    all_goals ((first | apply RetQ.ret | apply RetQ.normal); (case he => exact evr_); (case hg => rfl))
    all_goals first | (simp only [resV, e1, e2]; rfl) | (apply Keeps.fr; (case h => exact fr_); (case hv => exact plR.nm rfl))
  · rw [if_neg h]
    have e1 : (if a1 < a0 then a1 else a0) = a0 := if_neg h
    have e2 : (if a1 > a0 then a1 else a0) = a1 := if_pos (by omega)
    refine ACall.make Try.func44 rfl (by kernel_rfl) (by decide) rfl (fun N hN => ?_)
    have hT : Top N s := hN
    (repeat' (first | (apply Ab.K.ev; exact ev_) | (apply Ab.K.aops; first | (apply Xg.s; constructor) | (apply Ab.S.guardU; (case hd => rfl); (case hb => (exact ev_; done))) | apply Ab.S.guardG) | (apply Ab.K.aop; first | (first | (apply Ab.O.boxA (N + 0); (case hx => exact ev_); (case hid => exact frees_)) | (apply Ab.O.min2) | (apply Ab.O.max2) | (apply Ab.O.allocA (l := ec ⟨0, 0, 0⟩) (N + 1); (case hid => exact frees_); (case hp => rfl)) | (apply Ab.O.storeAll; (case hz => rfl); (case hx => exact ev_); (case hy => exact ev_); (case hs => exact at_); (case hl => rfl); (case hc => rfl))) | (apply Og.s; constructor)) | (apply Ab.K.gk; first | (apply Xg.s; constructor) | (apply Ab.gY; case hw => assumption) | (apply Ab.gNT; case hw => assumption) | (apply Ab.gNF; case hw => assumption) | ((first | apply Ab.gD | apply Ab.gDN); all_goals (intro _ _; (first | contradiction | (exfalso; omega) | skip)))) | (apply Ab.K.awp; first | (apply Xg.s; constructor)) | (apply Ab.K.at_; exact at_) | (apply Ab.K.acall; first | assumption | fail) | (apply Ab.Rg.mk; omega) | (apply Ab.Lt.mk; first | decide | (simp; done) | (simp; omega) | fail) | (apply Ab.Get.mk; first | rfl | fail) | (apply Ab.Nm.mk; first | exact nrm_) | (apply Xg.s; constructor) | (apply Ab.asm; assumption) | rfl | infer_instance | decide))
    all_goals ((first | apply RetQ.ret | apply RetQ.normal); (case he => exact evr_); (case hg => rfl))
    all_goals first | (simp only [resV, e1, e2]; rfl) | (apply Keeps.fr; (case h => exact fr_); (case hv => exact plR.nm rfl))
/-! ### the order of links -/
def or2 (a b : Int) : Int := if a ≠ 0 then a else b
theorem orI2 {s : AHeap} {q : Nat} {a b : Int} (hq : At s q (.cells true 1 [.int .i64 a, .int .i64 b])) : ACall Try.prog 61 [.slice (some ⟨q, 0, none⟩) 2 2] s (.int .i64 (or2 a b)) s := by
  unfold or2
  refine ACall.make Try.func61 rfl (by kernel_rfl) (by decide) rfl (fun N hN => ?_)
  (repeat' (first | (apply Ab.K.ev; exact ev_) | (apply Ab.K.aops; first | (apply Xg.s; constructor) | (apply Ab.S.guardU; (case hd => rfl); (case hb => (exact ev_; done))) | apply Ab.S.guardG) | (apply Ab.K.aop; first | (apply Og.s; constructor)) | (apply Ab.K.gk; first | (apply Xg.s; constructor) | (apply Ab.gY; case hw => assumption) | (apply Ab.gNT; case hw => assumption) | (apply Ab.gNF; case hw => assumption) | ((first | apply Ab.gD | apply Ab.gDN); all_goals (intro _ _; (first | contradiction | (exfalso; omega) | skip)))) | (apply Ab.K.awp; first | (apply Xg.s; constructor)) | (apply Ab.K.at_; exact at_) | (apply Ab.K.acall; first | assumption | fail) | (apply Ab.Rg.mk; omega) | (apply Ab.Lt.mk; first | decide | (simp; done) | (simp; omega) | fail) | (apply Ab.Get.mk; first | rfl | fail) | (apply Ab.Nm.mk; first | exact nrm_) | (apply Xg.s; constructor) | (apply Ab.asm; assumption) | rfl | infer_instance | decide))
  refine AWp.loop (fun kk tm s1 => ∃ i : Nat, Ev tm (.tmp 3) (.int .i64 0) ∧ Ev tm (.tmp 6) (.slice (some ⟨q, 0, none⟩) 2 2) ∧ Ev tm (.tmp 7) (.int .i64 (2 : Nat)) ∧ Ev tm (.tmp 8) (.int .i64 i) ∧ s1 = s ∧ i ≤ 2 ∧ (1 ≤ i → a = 0) ∧ (2 ≤ i → b = 0) ∧ kk = 2 - i) 2 ?_ ?_
  · exact ⟨0, by exact ev_, by exact ev_, by exact ev_, by exact ev_, rfl, by omega, by omega, by omega, rfl⟩
  · rintro k tm s1 ⟨i, e3, e6, e7, e8, rfl, hi, ha, hb, hk⟩
    rcases (show i = 0 ∨ i = 1 ∨ i = 2 by omega) with rfl | rfl | rfl
    · by_cases h : a = 0
      · (repeat' (first | (apply Ab.K.ev; exact ev_) | (apply Ab.K.aops; first | (apply Xg.s; constructor) | (apply Ab.S.guardU; (case hd => rfl); (case hb => (exact ev_; done))) | apply Ab.S.guardG) | (apply Ab.K.aop; first | (apply Og.s; constructor)) | (apply Ab.K.gk; first | (apply Xg.s; constructor) | (apply Ab.gY; case hw => assumption) | (apply Ab.gNT; case hw => assumption) | (apply Ab.gNF; case hw => assumption) | ((first | apply Ab.gD | apply Ab.gDN); all_goals (intro _ _; (first | contradiction | (exfalso; omega) | skip)))) | (apply Ab.K.awp; first | (apply Xg.s; constructor)) | (apply Ab.K.at_; exact at_) | (apply Ab.K.acall; first | assumption | fail) | (apply Ab.Rg.mk; omega) | (apply Ab.Lt.mk; first | decide | (simp; done) | (simp; omega) | fail) | (apply Ab.Get.mk; first | rfl | fail) | (apply Ab.Nm.mk; first | exact nrm_) | (apply Xg.s; constructor) | (apply Ab.asm; assumption) | rfl | infer_instance | decide))
        exact X.roundN (2 - (0 + 1)) (by omega) ⟨0 + 1, by exact ev_, by exact ev_, by exact ev_, by exact ev_, rfl, by omega, fun _ => h, by omega, rfl⟩
      · rw [if_pos h]
        (repeat' (first | (apply Ab.K.ev; exact ev_) | (apply Ab.K.aops; first | (apply Xg.s; constructor) | (apply Ab.S.guardU; (case hd => rfl); (case hb => (exact ev_; done))) | apply Ab.S.guardG) | (apply Ab.K.aop; first | (apply Og.s; constructor)) | (apply Ab.K.gk; first | (apply Xg.s; constructor) | (apply Ab.gY; case hw => assumption) | (apply Ab.gNT; case hw => assumption) | (apply Ab.gNF; case hw => assumption) | ((first | apply Ab.gD | apply Ab.gDN); all_goals (intro _ _; (first | contradiction | (exfalso; omega) | skip)))) | (apply Ab.K.awp; first | (apply Xg.s; constructor)) | (apply Ab.K.at_; exact at_) | (apply Ab.K.acall; first | assumption | fail) | (apply Ab.Rg.mk; omega) | (apply Ab.Lt.mk; first | decide | (simp; done) | (simp; omega) | fail) | (apply Ab.Get.mk; first | rfl | fail) | (apply Ab.Nm.mk; first | exact nrm_) | (apply Xg.s; constructor) | (apply Ab.asm; assumption) | rfl | infer_instance | decide))
        all_goals ((first | apply RetQ.ret | apply RetQ.normal); (case he => exact evr_); (case hg => rfl))
        all_goals first | rfl | exact Keeps.self trivial
    · rw [if_neg (fun x => x (ha (by omega)))]
      by_cases h : b = 0
      · (repeat' (first | (apply Ab.K.ev; exact ev_) | (apply Ab.K.aops; first | (apply Xg.s; constructor) | (apply Ab.S.guardU; (case hd => rfl); (case hb => (exact ev_; done))) | apply Ab.S.guardG) | (apply Ab.K.aop; first | (apply Og.s; constructor)) | (apply Ab.K.gk; first | (apply Xg.s; constructor) | (apply Ab.gY; case hw => assumption) | (apply Ab.gNT; case hw => assumption) | (apply Ab.gNF; case hw => assumption) | ((first | apply Ab.gD | apply Ab.gDN); all_goals (intro _ _; (first | contradiction | (exfalso; omega) | skip)))) | (apply Ab.K.awp; first | (apply Xg.s; constructor)) | (apply Ab.K.at_; exact at_) | (apply Ab.K.acall; first | assumption | fail) | (apply Ab.Rg.mk; omega) | (apply Ab.Lt.mk; first | decide | (simp; done) | (simp; omega) | fail) | (apply Ab.Get.mk; first | rfl | fail) | (apply Ab.Nm.mk; first | exact nrm_) | (apply Xg.s; constructor) | (apply Ab.asm; assumption) | rfl | infer_instance | decide))
        exact X.roundN (2 - (1 + 1)) (by omega) ⟨1 + 1, by exact ev_, by exact ev_, by exact ev_, by exact ev_, rfl, by omega, fun _ => ha (by omega), fun _ => h, rfl⟩
      · (repeat' (first | (apply Ab.K.ev; exact ev_) | (apply Ab.K.aops; first | (apply Xg.s; constructor) | (apply Ab.S.guardU; (case hd => rfl); (case hb => (exact ev_; done))) | apply Ab.S.guardG) | (apply Ab.K.aop; first | (apply Og.s; constructor)) | (apply Ab.K.gk; first | (apply Xg.s; constructor) | (apply Ab.gY; case hw => assumption) | (apply Ab.gNT; case hw => assumption) | (apply Ab.gNF; case hw => assumption) | ((first | apply Ab.gD | apply Ab.gDN); all_goals (intro _ _; (first | contradiction | (exfalso; omega) | skip)))) | (apply Ab.K.awp; first | (apply Xg.s; constructor)) | (apply Ab.K.at_; exact at_) | (apply Ab.K.acall; first | assumption | fail) | (apply Ab.Rg.mk; omega) | (apply Ab.Lt.mk; first | decide | (simp; done) | (simp; omega) | fail) | (apply Ab.Get.mk; first | rfl | fail) | (apply Ab.Nm.mk; first | exact nrm_) | (apply Xg.s; constructor) | (apply Ab.asm; assumption) | rfl | infer_instance | decide))
        all_goals ((first | apply RetQ.ret | apply RetQ.normal); (case he => exact evr_); (case hg => rfl))
        all_goals first | rfl | exact Keeps.self trivial
    · rw [if_neg (fun x => x (ha (by omega))), hb (by omega)]
      (repeat' (first | (apply Ab.K.ev; exact ev_) | (apply Ab.K.aops; first | (apply Xg.s; constructor) | (apply Ab.S.guardU; (case hd => rfl); (case hb => (exact ev_; done))) | apply Ab.S.guardG) | (apply Ab.K.aop; first | (apply Og.s; constructor)) | (apply Ab.K.gk; first | (apply Xg.s; constructor) | (apply Ab.gY; case hw => assumption) | (apply Ab.gNT; case hw => assumption) | (apply Ab.gNF; case hw => assumption) | ((first | apply Ab.gD | apply Ab.gDN); all_goals (intro _ _; (first | contradiction | (exfalso; omega) | skip)))) | (apply Ab.K.awp; first | (apply Xg.s; constructor)) | (apply Ab.K.at_; exact at_) | (apply Ab.K.acall; first | assumption | fail) | (apply Ab.Rg.mk; omega) | (apply Ab.Lt.mk; first | decide | (simp; done) | (simp; omega) | fail) | (apply Ab.Get.mk; first | rfl | fail) | (apply Ab.Nm.mk; first | exact nrm_) | (apply Xg.s; constructor) | (apply Ab.asm; assumption) | rfl | infer_instance | decide))
      all_goals ((first | apply RetQ.ret | apply RetQ.normal); (case he => exact evr_); (case hg => rfl))
      all_goals first | rfl | exact Keeps.self trivial
/-- How links are ordered. -/
def ord2 (a b : Kn) : Int := or2 (cmp3 a.node b.node) (cmp3 a.peer b.peer)
theorem ord2_neg {a b : Kn} : ord2 a b < 0 ↔ VP.ahead a b := by unfold ord2 or2 cmp3 VP.ahead; grind
theorem ord2_zero {a b : Kn} : ord2 a b = 0 ↔ a.node = b.node ∧ a.peer = b.peer := by unfold ord2 or2 cmp3; grind
theorem orderV {s : AHeap} {e f : Kn} : ACall Try.prog 56 [.agg (kc e).toArray, .agg (kc f).toArray] s (.int .i64 (ord2 e f)) s := by
  obtain ⟨a1, a2, a3, a4, a5⟩ := e
  obtain ⟨b1, b2, b3, b4, b5⟩ := f
  unfold ord2
  simp only
  have c1 : ∀ s' : AHeap, ∀ q a b, At s' q (.cells true 1 [.int .i64 a, .int .i64 b]) → ACall Try.prog 61 [.slice (some ⟨q, 0, none⟩) 2 2] s' (.int .i64 (or2 a b)) s' := fun s' q a b h => orI2 h
  refine ACall.make Try.func56 rfl (by kernel_rfl) (by decide) rfl (fun N hN => ?_)
  have hT : Top N s := hN

  (repeat' (first | (apply Ab.K.ev; exact ev_) | (apply Ab.K.aops; first | (apply Xg.s; constructor) | (apply Ab.S.guardU; (case hd => rfl); (case hb => (exact ev_; done))) | apply Ab.S.guardG) | (apply Ab.K.aop; first | (first | (apply Ab.O.boxA (N + 0); (case hx => exact ev_); (case hid => exact frees_)) | (apply Ab.O.boxA (N + 1); (case hx => exact ev_); (case hid => exact frees_)) | (apply Ab.O.buildSlice (N + 2) (te := ⟨.int .i64, 1, 8, .int .i64 0⟩) (c := [.int .i64 (cmp3 a1 b1), .int .i64 (cmp3 a2 b2)]); (case hp => exact evp_); (case hz => exact ⟨rfl, by decide, rfl⟩); (case hc => rfl); (case hid => exact free_))) | (apply Og.s; constructor)) | (apply Ab.K.gk; first | (apply Xg.s; constructor) | (apply Ab.gY; case hw => assumption) | (apply Ab.gNT; case hw => assumption) | (apply Ab.gNF; case hw => assumption) | ((first | apply Ab.gD | apply Ab.gDN); all_goals (intro _ _; (first | contradiction | (exfalso; omega) | skip)))) | (apply Ab.K.aopsD; first | (apply Ab.D.q0t; (case hw => rfl); (case hot => rfl)) | (apply Ab.D.w1t; (case hw => rfl); (case hot => rfl)) | (apply Ab.D.q0; (case hw => rfl); intro _ _) | (apply Ab.D.w1n; (case hw => rfl); intro _ _) | (apply Ab.D.w2n; (case hw => rfl); intro _ _) | (apply Xg.s; constructor) | (apply Ab.D.guardU; (case hd => rfl); (case hb => (exact ev_; done))) | apply Ab.D.guardG) | exact ⟨rfl, rfl⟩ | (apply Ab.K.awp; first | (apply AWp.draw (id := 1) [[], [0], [], [2], [0, 1, 2, 3], [], [5], [], [7], [0, 1, 2, 3, 4, 5, 6, 7, 8], [0, 1, 2, 3, 4, 5, 6, 7, 8, 9], [0, 1, 2, 3, 4, 5, 6, 7, 8, 9, 10], [0, 1, 2, 3, 4, 5, 6, 7, 8, 9, 10, 11]] [(10, [N + 2])] (by kernel_rfl) (by kernel_rfl) (by simp [apartW, unordB, cC] <;> omega)) | (apply Xg.s; constructor)) | (apply Ab.K.at_; exact at_) | (apply Ab.K.acall; first | assumption | first | exact cmp49 | exact c1 _ _ (cmp3 a1 b1) (cmp3 a2 b2) (by exact at_)) | (apply Ab.Rg.mk; omega) | (apply Ab.Lt.mk; first | decide | (simp; done) | (simp; omega) | fail) | (apply Ab.Get.mk; first | rfl | fail) | (apply Ab.Nm.mk; first | exact nrm_) | (apply Xg.s; constructor) | (apply Ab.asm; assumption) | rfl | infer_instance | decide))
  all_goals ((first | apply RetQ.ret | apply RetQ.normal); (case he => exact evr_); (case hg => rfl))
  all_goals first | rfl | (apply Keeps.fr; (case h => exact fr_); (case hv => exact plR.nm rfl))

/-! ### is a number among some -/
theorem in09 {s : AHeap} {A : Option Addr} {n c : Nat} {on : Option Nat} {l : List Int} {x : Int} (h : NA s (.slice A n c) on l) (hn : n < 4611686018427387904) : ACall Try.prog 41 [.slice A n c, .int .i64 x] s (.bool (decide (x ∈ l))) s := by
  have hnl : n = l.length := by obtain ⟨_, _, e⟩ := h.isl; injection e
  refine ACall.make Try.func41 rfl (by kernel_rfl) (by decide) rfl (fun N hN => ?_)
  clear hN
  (repeat' (first | (apply Ab.K.ev; exact ev_) | (apply Ab.K.aops; first | (apply Xg.s; constructor) | (apply Ab.S.guardU; (case hd => rfl); (case hb => (exact ev_; done))) | apply Ab.S.guardG) | (apply Ab.K.aop; first | (apply Og.s; constructor)) | (apply Ab.K.gk; first | (apply Xg.s; constructor) | (apply Ab.gY; case hw => assumption) | (apply Ab.gNT; case hw => assumption) | (apply Ab.gNF; case hw => assumption) | ((first | apply Ab.gD | apply Ab.gDN); all_goals (intro _ _; (first | contradiction | (exfalso; omega) | skip)))) | (apply Ab.K.awp; first | (apply Xg.s; constructor)) | (apply Ab.K.at_; exact at_) | (apply Ab.K.acall; first | assumption | fail) | (apply Ab.Rg.mk; omega) | (apply Ab.Lt.mk; first | decide | (simp; done) | (simp; omega) | fail) | (apply Ab.Get.mk; first | rfl | fail) | (apply Ab.Nm.mk; first | exact nrm_) | (apply Xg.s; constructor) | (apply Ab.asm; assumption) | rfl | infer_instance | decide))
  refine AWp.loop (fun kk tm s1 => ∃ i : Nat, Ev tm (.tmp 0) (.slice A n c) ∧ Ev tm (.tmp 1) (.int .i64 x) ∧ Ev tm (.tmp 5) (.int .i64 i) ∧ s1 = s ∧ x ∉ l.take i ∧ i ≤ n ∧ kk = n - i) n ?_ ?_
  · exact ⟨0, by exact ev_, by exact ev_, by exact ev_, rfl, by simp, by omega, rfl⟩
  rintro kk tm s1 ⟨i, e0, e1, e5, rfl, hx, hi, hkk⟩
  by_cases hin : i < n
  · obtain ⟨y, hy⟩ : ∃ y, l[i]? = some y := ⟨_, List.getElem?_eq_getElem (by omega)⟩
    have htk : l.take (i + 1) = l.take i ++ [y] := by rw [List.take_add_one, hy]; rfl
    obtain ⟨q, rw1, cs, rfl, _, _, hq, g0⟩ := h.elt hy
    by_cases hyx : y = x
    · have hm : x ∈ l := hyx ▸ List.mem_of_getElem? hy
      rw [decide_eq_true hm]
      (repeat' (first | (apply Ab.K.ev; exact ev_) | (apply Ab.K.aops; first | (apply Xg.s; constructor) | (apply Ab.S.guardU; (case hd => rfl); (case hb => (exact ev_; done))) | apply Ab.S.guardG) | (apply Ab.K.aop; first | (apply Og.s; constructor)) | (apply Ab.K.gk; first | (apply Xg.s; constructor) | (apply Ab.gY; case hw => assumption) | (apply Ab.gNT; case hw => assumption) | (apply Ab.gNF; case hw => assumption) | ((first | apply Ab.gD | apply Ab.gDN); all_goals (intro _ _; (first | contradiction | (exfalso; omega) | skip)))) | (apply Ab.K.awp; first | (apply Xg.s; constructor)) | (apply Ab.K.at_; exact at_) | (apply Ab.K.acall; first | assumption | fail) | (apply Ab.Rg.mk; omega) | (apply Ab.Lt.mk; first | decide | (simp; done) | (simp; omega) | fail) | (apply Ab.Get.mk; first | rfl | (rw [Int.toNat_natCast]; exact g0)) | (apply Ab.Nm.mk; first | exact nrm_) | (apply Xg.s; constructor) | (apply Ab.asm; assumption) | rfl | infer_instance | decide))
      all_goals ((first | apply RetQ.ret | apply RetQ.normal); (case he => exact evr_); (case hg => rfl))
      all_goals first | rfl | exact Keeps.self trivial
    · (repeat' (first | (apply Ab.K.ev; exact ev_) | (apply Ab.K.aops; first | (apply Xg.s; constructor) | (apply Ab.S.guardU; (case hd => rfl); (case hb => (exact ev_; done))) | apply Ab.S.guardG) | (apply Ab.K.aop; first | (apply Og.s; constructor)) | (apply Ab.K.gk; first | (apply Xg.s; constructor) | (apply Ab.gY; case hw => assumption) | (apply Ab.gNT; case hw => assumption) | (apply Ab.gNF; case hw => assumption) | ((first | apply Ab.gD | apply Ab.gDN); all_goals (intro _ _; (first | contradiction | (exfalso; omega) | skip)))) | (apply Ab.K.awp; first | (apply Xg.s; constructor)) | (apply Ab.K.at_; exact at_) | (apply Ab.K.acall; first | assumption | fail) | (apply Ab.Rg.mk; omega) | (apply Ab.Lt.mk; first | decide | (simp; done) | (simp; omega) | fail) | (apply Ab.Get.mk; first | rfl | (rw [Int.toNat_natCast]; exact g0)) | (apply Ab.Nm.mk; first | exact nrm_) | (apply Xg.s; constructor) | (apply Ab.asm; assumption) | rfl | infer_instance | decide))
      exact X.roundN (n - (i + 1)) (by omega) ⟨i + 1, by exact ev_, by exact ev_, by exact ev_, rfl, by rw [htk, List.mem_append, List.mem_singleton]; exact fun h => h.elim hx fun e => hyx e.symm, by omega, rfl⟩
  · obtain rfl : i = n := by omega
    rw [hnl, List.take_length] at hx
    rw [decide_eq_false hx]
    (repeat' (first | (apply Ab.K.ev; exact ev_) | (apply Ab.K.aops; first | (apply Xg.s; constructor) | (apply Ab.S.guardU; (case hd => rfl); (case hb => (exact ev_; done))) | apply Ab.S.guardG) | (apply Ab.K.aop; first | (apply Og.s; constructor)) | (apply Ab.K.gk; first | (apply Xg.s; constructor) | (apply Ab.gY; case hw => assumption) | (apply Ab.gNT; case hw => assumption) | (apply Ab.gNF; case hw => assumption) | ((first | apply Ab.gD | apply Ab.gDN); all_goals (intro _ _; (first | contradiction | (exfalso; omega) | skip)))) | (apply Ab.K.awp; first | (apply Xg.s; constructor)) | (apply Ab.K.at_; exact at_) | (apply Ab.K.acall; first | assumption | fail) | (apply Ab.Rg.mk; omega) | (apply Ab.Lt.mk; first | decide | (simp; done) | (simp; omega) | fail) | (apply Ab.Get.mk; first | rfl | (rw [Int.toNat_natCast]; exact g0)) | (apply Ab.Nm.mk; first | exact nrm_) | (apply Xg.s; constructor) | (apply Ab.asm; assumption) | rfl | infer_instance | decide))
    all_goals ((first | apply RetQ.ret | apply RetQ.normal); (case he => exact evr_); (case hg => rfl))
    all_goals first | rfl | exact Keeps.self trivial
theorem indexI {s : AHeap} {A : Option Addr} {n c : Nat} {on : Option Nat} {l : List Int} {x : Int} (h : NA s (.slice A n c) on l) (hn : n < 4611686018427387904) :
    ∃ i : Int, ACall Try.prog 50 [.slice A n c, .int .i64 x] s (.int .i64 i) s ∧ (0 ≤ i ↔ x ∈ l) := by
  have hnl : n = l.length := by obtain ⟨_, _, e⟩ := h.isl; injection e
  have hex : ∃ i : Int, (i = -1 ∧ x ∉ l) ∨ ∃ k : Nat, i = k ∧ l[k]? = some x ∧ x ∉ l.take k := by
    by_cases hx : x ∈ l
    · refine ⟨(l.idxOf x : Nat), .inr ⟨l.idxOf x, rfl, ?_, ?_⟩⟩
      · rw [List.getElem?_eq_getElem (List.idxOf_lt_length_of_mem hx), List.getElem_idxOf]
      · intro hm
        obtain ⟨j, hj⟩ := List.mem_iff_getElem?.1 hm
        have hjl : j < l.idxOf x := by have := (List.getElem?_eq_some_iff.1 hj).1; rw [List.length_take] at this; omega
        rw [List.getElem?_take, if_pos hjl] at hj
        have := List.not_of_lt_findIdx (p := (· == x)) (xs := l) (i := j) hjl
        obtain ⟨a1, a2⟩ := List.getElem?_eq_some_iff.1 hj
        rw [a2] at this; simp at this
    · exact ⟨-1, .inl ⟨rfl, hx⟩⟩
  obtain ⟨r, hr⟩ := hex
  refine ⟨r, ?_, ?_⟩
  · refine ACall.make Try.func50 rfl (by kernel_rfl) (by decide) rfl (fun N hN => ?_)
    clear hN
    (repeat' (first | (apply Ab.K.ev; exact ev_) | (apply Ab.K.aops; first | (apply Xg.s; constructor) | (apply Ab.S.guardU; (case hd => rfl); (case hb => (exact ev_; done))) | apply Ab.S.guardG) | (apply Ab.K.aop; first | (apply Og.s; constructor)) | (apply Ab.K.gk; first | (apply Xg.s; constructor) | (apply Ab.gY; case hw => assumption) | (apply Ab.gNT; case hw => assumption) | (apply Ab.gNF; case hw => assumption) | ((first | apply Ab.gD | apply Ab.gDN); all_goals (intro _ _; (first | contradiction | (exfalso; omega) | skip)))) | (apply Ab.K.awp; first | (apply Xg.s; constructor)) | (apply Ab.K.at_; exact at_) | (apply Ab.K.acall; first | assumption | fail) | (apply Ab.Rg.mk; omega) | (apply Ab.Lt.mk; first | decide | (simp; done) | (simp; omega) | fail) | (apply Ab.Get.mk; first | rfl | (rw [Int.toNat_natCast]; exact g0)) | (apply Ab.Nm.mk; first | exact nrm_) | (apply Xg.s; constructor) | (apply Ab.asm; assumption) | rfl | infer_instance | decide))
    refine AWp.loop (fun kk tm s1 => ∃ i : Nat, Ev tm (.tmp 0) (.slice A n c) ∧ Ev tm (.tmp 1) (.int .i64 x) ∧ Ev tm (.tmp 7) (.int .i64 n) ∧ Ev tm (.tmp 8) (.int .i64 i) ∧ s1 = s ∧ x ∉ l.take i ∧ i ≤ n ∧ kk = n - i) n ?_ ?_
    · exact ⟨0, by exact ev_, by exact ev_, by exact ev_, by exact ev_, rfl, by simp, by omega, rfl⟩
    rintro kk tm s1 ⟨i, e0, e1, e7, e8, rfl, hx, hi, hkk⟩
    by_cases hin : i < n
    · obtain ⟨y, hy⟩ : ∃ y, l[i]? = some y := ⟨_, List.getElem?_eq_getElem (by omega)⟩
      have htk : l.take (i + 1) = l.take i ++ [y] := by rw [List.take_add_one, hy]; rfl
      obtain ⟨q, rw1, cs, rfl, _, _, hq, g0⟩ := h.elt hy
      by_cases hyx : x = y
      · have hm : x ∈ l := hyx ▸ List.mem_of_getElem? hy
        have hri : r = i := by
          rcases hr with ⟨_, h2⟩ | ⟨k, rfl, h2, h3⟩
          · exact absurd hm h2
          · rcases Nat.lt_trichotomy k i with h4 | rfl | h4
            · exact absurd (List.mem_of_getElem? (i := k) (by rw [List.getElem?_take, if_pos h4]; exact h2)) hx
            · rfl
            · exact absurd (List.mem_of_getElem? (i := i) (by rw [List.getElem?_take, if_pos h4, hyx]; exact hy)) h3
        rw [hri]
        (repeat' (first | (apply Ab.K.ev; exact ev_) | (apply Ab.K.aops; first | (apply Xg.s; constructor) | (apply Ab.S.guardU; (case hd => rfl); (case hb => (exact ev_; done))) | apply Ab.S.guardG) | (apply Ab.K.aop; first | (apply Og.s; constructor)) | (apply Ab.K.gk; first | (apply Xg.s; constructor) | (apply Ab.gY; case hw => assumption) | (apply Ab.gNT; case hw => assumption) | (apply Ab.gNF; case hw => assumption) | ((first | apply Ab.gD | apply Ab.gDN); all_goals (intro _ _; (first | contradiction | (exfalso; omega) | skip)))) | (apply Ab.K.awp; first | (apply Xg.s; constructor)) | (apply Ab.K.at_; exact at_) | (apply Ab.K.acall; first | assumption | fail) | (apply Ab.Rg.mk; omega) | (apply Ab.Lt.mk; first | decide | (simp; done) | (simp; omega) | fail) | (apply Ab.Get.mk; first | rfl | (rw [Int.toNat_natCast]; exact g0)) | (apply Ab.Nm.mk; first | exact nrm_) | (apply Xg.s; constructor) | (apply Ab.asm; assumption) | rfl | infer_instance | decide))
        all_goals ((first | apply RetQ.ret | apply RetQ.normal); (case he => exact evr_); (case hg => rfl))
        all_goals first | rfl | exact Keeps.self trivial
      · (repeat' (first | (apply Ab.K.ev; exact ev_) | (apply Ab.K.aops; first | (apply Xg.s; constructor) | (apply Ab.S.guardU; (case hd => rfl); (case hb => (exact ev_; done))) | apply Ab.S.guardG) | (apply Ab.K.aop; first | (apply Og.s; constructor)) | (apply Ab.K.gk; first | (apply Xg.s; constructor) | (apply Ab.gY; case hw => assumption) | (apply Ab.gNT; case hw => assumption) | (apply Ab.gNF; case hw => assumption) | ((first | apply Ab.gD | apply Ab.gDN); all_goals (intro _ _; (first | contradiction | (exfalso; omega) | skip)))) | (apply Ab.K.awp; first | (apply Xg.s; constructor)) | (apply Ab.K.at_; exact at_) | (apply Ab.K.acall; first | assumption | fail) | (apply Ab.Rg.mk; omega) | (apply Ab.Lt.mk; first | decide | (simp; done) | (simp; omega) | fail) | (apply Ab.Get.mk; first | rfl | (rw [Int.toNat_natCast]; exact g0)) | (apply Ab.Nm.mk; first | exact nrm_) | (apply Xg.s; constructor) | (apply Ab.asm; assumption) | rfl | infer_instance | decide))
        exact X.roundN (n - (i + 1)) (by omega) ⟨i + 1, by exact ev_, by exact ev_, by exact ev_, by exact ev_, rfl, by rw [htk, List.mem_append, List.mem_singleton]; exact fun h => h.elim hx hyx, by omega, rfl⟩
    · obtain rfl : i = n := by omega
      rw [hnl, List.take_length] at hx
      have hr1 : r = -1 := by
        rcases hr with ⟨h1, _⟩ | ⟨k, _, h2, _⟩
        · exact h1
        · exact absurd (List.mem_of_getElem? h2) hx
      rw [hr1]
      (repeat' (first | (apply Ab.K.ev; exact ev_) | (apply Ab.K.aops; first | (apply Xg.s; constructor) | (apply Ab.S.guardU; (case hd => rfl); (case hb => (exact ev_; done))) | apply Ab.S.guardG) | (apply Ab.K.aop; first | (apply Og.s; constructor)) | (apply Ab.K.gk; first | (apply Xg.s; constructor) | (apply Ab.gY; case hw => assumption) | (apply Ab.gNT; case hw => assumption) | (apply Ab.gNF; case hw => assumption) | ((first | apply Ab.gD | apply Ab.gDN); all_goals (intro _ _; (first | contradiction | (exfalso; omega) | skip)))) | (apply Ab.K.awp; first | (apply Xg.s; constructor)) | (apply Ab.K.at_; exact at_) | (apply Ab.K.acall; first | assumption | fail) | (apply Ab.Rg.mk; omega) | (apply Ab.Lt.mk; first | decide | (simp; done) | (simp; omega) | fail) | (apply Ab.Get.mk; first | rfl | (rw [Int.toNat_natCast]; exact g0)) | (apply Ab.Nm.mk; first | exact nrm_) | (apply Xg.s; constructor) | (apply Ab.asm; assumption) | rfl | infer_instance | decide))
      all_goals ((first | apply RetQ.ret | apply RetQ.normal); (case he => exact evr_); (case hg => rfl))
      all_goals first | rfl | exact Keeps.self trivial
  · rcases hr with ⟨rfl, h2⟩ | ⟨k, rfl, h2, _⟩
    · exact ⟨fun h => by omega, fun h => absurd h h2⟩
    · exact ⟨fun _ => List.mem_of_getElem? h2, fun _ => by omega⟩
theorem containsI {s : AHeap} {A : Option Addr} {n c : Nat} {on : Option Nat} {l : List Int} {x : Int} (h : NA s (.slice A n c) on l) (hn : n < 4611686018427387904) : ACall Try.prog 33 [.slice A n c, .int .i64 x] s (.bool (decide (x ∈ l))) s := by
  obtain ⟨i, c50, hi⟩ := indexI (x := x) h hn
  by_cases hx : x ∈ l
  · have h0 := hi.2 hx
    rw [decide_eq_true hx]
    (refine ACall.make Try.func33 rfl (by kernel_rfl) (by decide) rfl (fun N hN => ?_); have hT : Top N _ := hN; (repeat' (first | (apply Ab.K.ev; exact ev_) | (apply Ab.K.aops; first | (apply Xg.s; constructor) | (apply Ab.S.guardU; (case hd => rfl); (case hb => (exact ev_; done))) | apply Ab.S.guardG) | (apply Ab.K.aop; first | (apply Og.s; constructor)) | (apply Ab.K.gk; first | (apply Xg.s; constructor) | (apply Ab.gY; case hw => assumption) | (apply Ab.gNT; case hw => assumption) | (apply Ab.gNF; case hw => assumption) | ((first | apply Ab.gD | apply Ab.gDN); all_goals (intro _ _; (first | contradiction | (exfalso; omega) | skip)))) | (apply Ab.K.awp; first | (apply Xg.s; constructor)) | (apply Ab.K.at_; exact at_) | (apply Ab.K.acall; first | assumption | exact c50) | (apply Ab.Rg.mk; omega) | (apply Ab.Lt.mk; first | decide | (simp; done) | (simp; omega) | fail) | (apply Ab.Get.mk; first | rfl | (rw [Int.toNat_natCast]; exact g0)) | (apply Ab.Nm.mk; first | exact nrm_) | (apply Xg.s; constructor) | (apply Ab.asm; assumption) | rfl | infer_instance | decide)); (all_goals ((first | apply RetQ.ret | apply RetQ.normal); (case he => exact evr_); (case hg => rfl))); (all_goals first | rfl | (apply Keeps.fr; (case h => exact fr_); (case hv => exact plR.nm rfl)) | (simp only [resV]; congr 1; exact decide_eq_true h0)))
  · have h0 : ¬ 0 ≤ i := fun h => hx (hi.1 h)
    rw [decide_eq_false hx]
    (refine ACall.make Try.func33 rfl (by kernel_rfl) (by decide) rfl (fun N hN => ?_); have hT : Top N _ := hN; (repeat' (first | (apply Ab.K.ev; exact ev_) | (apply Ab.K.aops; first | (apply Xg.s; constructor) | (apply Ab.S.guardU; (case hd => rfl); (case hb => (exact ev_; done))) | apply Ab.S.guardG) | (apply Ab.K.aop; first | (apply Og.s; constructor)) | (apply Ab.K.gk; first | (apply Xg.s; constructor) | (apply Ab.gY; case hw => assumption) | (apply Ab.gNT; case hw => assumption) | (apply Ab.gNF; case hw => assumption) | ((first | apply Ab.gD | apply Ab.gDN); all_goals (intro _ _; (first | contradiction | (exfalso; omega) | skip)))) | (apply Ab.K.awp; first | (apply Xg.s; constructor)) | (apply Ab.K.at_; exact at_) | (apply Ab.K.acall; first | assumption | exact c50) | (apply Ab.Rg.mk; omega) | (apply Ab.Lt.mk; first | decide | (simp; done) | (simp; omega) | fail) | (apply Ab.Get.mk; first | rfl | (rw [Int.toNat_natCast]; exact g0)) | (apply Ab.Nm.mk; first | exact nrm_) | (apply Xg.s; constructor) | (apply Ab.asm; assumption) | rfl | infer_instance | decide)); (all_goals ((first | apply RetQ.ret | apply RetQ.normal); (case he => exact evr_); (case hg => rfl))); (all_goals first | rfl | (apply Keeps.fr; (case h => exact fr_); (case hv => exact plR.nm rfl)) | (simp only [resV]; congr 1; exact decide_eq_false h0)))
end Go.Proofs.Ytdbnpghckgmaoaa

/- trees: the document's forests, which edges may be together. -/
namespace Go.Proofs.Ytdbnpghckgmaoaa
set_option linter.unusedVariables false
set_option linter.unusedSimpArgs false
set_option linter.unusedSectionVars false
open Go.RowKit Ab TP
attribute [local irreducible] AOps AOpsD AOp AWp put nargs AHeap.set At Free ACall thenQ blockQ roundQ RetQ Src bsn
theorem EA.take {s : AHeap} {q n c i : Nat} {on : Option Nat} {l : List E} (h : EA s (.slice (some ⟨q, 0, none⟩) n c) on l) (hi : i ≤ n) : EA s (.slice (some ⟨q, 0, none⟩) i c) on (l.take i) := by
  cases h with
  | @blk _ _ rw cs _ h a b =>
    have hl : (l.take i).length = i := by rw [List.length_take]; omega
    have := EA.blk (c := c) (l := l.take i) h (by omega) (by
      rw [hl]
      have h2 : (cs.take (l.length * 3)).take (i * 3) = cs.take (i * 3) := by rw [List.take_take]; congr 1; omega
      rw [← h2, b]
      have : ecs l = ecs (l.take i) ++ ecs (l.drop i) := by rw [← ecs_append, List.take_append_drop]
      rw [this, List.take_left' (by rw [ecs_length, hl])])
    rwa [hl] at this
noncomputable def foB (l : List E) : Bool := open Classical in decide (Forest l)
theorem foB_iff {l : List E} : foB l = true ↔ Forest l := by simp [foB]
theorem forest22 {s : AHeap} {A : Option Addr} {n c : Nat} {on : Option Nat} {l : List E} (h : EA s (.slice A n c) on l) (hl : ∀ e ∈ l, TP.Node e.a ∧ TP.Node e.b) (hn : n < 4611686018427387904) :
    ACall Try.prog 27 [.slice A n c] s (.bool (foB l)) s := by
  have hnl : n = l.length := by obtain ⟨_, _, e⟩ := h.isl; injection e
  refine ACall.make Try.func27 rfl (by kernel_rfl) (by decide) rfl (fun N hN => ?_)
  (repeat' (first | (apply Ab.K.ev; exact ev_) | (apply Ab.K.aops; first | (apply Xg.s; constructor) | (apply Ab.S.guardU; (case hd => rfl); (case hb => (exact ev_; done))) | apply Ab.S.guardG) | (apply Ab.K.aop; first | (apply Og.s; constructor)) | (apply Ab.K.gk; first | (apply Xg.s; constructor) | (apply Ab.gY; case hw => assumption) | (apply Ab.gNT; case hw => assumption) | (apply Ab.gNF; case hw => assumption) | ((first | apply Ab.gD | apply Ab.gDN); all_goals (intro _ _; (first | contradiction | (exfalso; omega) | skip)))) | (apply Ab.K.awp; first | (apply Xg.s; constructor)) | (apply Ab.K.at_; exact at_) | (apply Ab.K.acall; first | assumption | fail) | (apply Ab.Rg.mk; omega) | (apply Ab.Lt.mk; first | decide | (simp; done) | (simp; omega) | fail) | (apply Ab.Get.mk; first | rfl | fail) | (apply Ab.Nm.mk; first | exact nrm_) | (apply Xg.s; constructor) | (apply Ab.asm; assumption) | rfl | infer_instance | decide))
  refine AWp.loop (fun kk tm s1 => ∃ i : Nat, Ev tm (.tmp 0) (.slice A n c) ∧ Ev tm (.tmp 3) (.int .i64 i) ∧ s1 = s ∧ i ≤ n ∧ (∀ j, j < i → ∀ e, l[j]? = some e → ¬ Conn (l.take j) e.a e.b) ∧ kk = n - i) n ?_ ?_
  · exact ⟨0, by exact ev_, by exact ev_, rfl, by omega, fun j hj => by omega, rfl⟩
  rintro k tm s1 ⟨i, ev0, ev3, rfl, hi, hall, hk⟩
  by_cases hlt : i < n
  · have hi' : l[i]? = some (l[i]'(by omega)) := List.getElem?_eq_getElem (by omega)
    obtain ⟨e, hee⟩ : ∃ e, e = l[i]'(by omega) := ⟨_, rfl⟩
    rw [← hee] at hi'
    have hne := hl e (List.mem_of_getElem? hi')
    have h0 := h
    obtain ⟨q, rw1, cs, rfl, hon, _, hq, _, _, g0, g1, _⟩ := h0.elt hi'
    have hc : n ≤ c := by cases h with | blk a b c => exact hnl ▸ b
    have hb : lkB (l.take i) e.a e.b = true ↔ Conn (l.take i) e.a e.b := lkB_iff.trans ⟨fun h => h.2.2, fun h => ⟨hne.1, hne.2, h⟩⟩
    have c9 := linked9 (a := e.a) (b := e.b) (h.take (i := i) (by omega)) (fun f hf => hl f (List.mem_of_mem_take hf)) (by omega)


    cases hlk : lkB (l.take i) e.a e.b
    · rw [hlk] at c9
      (repeat' (first | (apply Ab.K.ev; exact ev_) | (apply Ab.K.aops; first | (apply Xg.s; constructor) | (apply Ab.S.guardU; (case hd => rfl); (case hb => (exact ev_; done))) | apply Ab.S.guardG) | (apply Ab.K.aop; first | (apply Og.s; constructor)) | (apply Ab.K.gk; first | (apply Xg.s; constructor) | (apply Ab.gY; case hw => assumption) | (apply Ab.gNT; case hw => assumption) | (apply Ab.gNF; case hw => assumption) | ((first | apply Ab.gD | apply Ab.gDN); all_goals (intro _ _; (first | contradiction | (exfalso; omega) | skip)))) | (apply Ab.K.aopsD; first | (apply Ab.D.q0t; (case hw => rfl); (case hot => rfl)) | (apply Ab.D.w1t; (case hw => rfl); (case hot => rfl)) | (apply Ab.D.q0; (case hw => rfl); intro _ _) | (apply Ab.D.w1n; (case hw => rfl); intro _ _) | (apply Ab.D.w2n; (case hw => rfl); intro _ _) | (apply Xg.s; constructor) | fail | apply Ab.D.guardG) | exact ⟨rfl, rfl⟩ | (apply Ab.K.awp; first | (apply AWp.draw (id := 4) [[], [], [0, 1], [], [], [3, 4], [3, 4, 5], [3, 4, 5, 6], [], [], [8, 9], [8, 9, 10], [8, 9, 10, 11], [0, 1, 2, 3, 4, 5, 6, 7, 8, 9, 10, 11, 12]] [] (by kernel_rfl) (by kernel_rfl) (by simp [apartW, unordB, cC] <;> omega)) | (apply Xg.s; constructor)) | (apply Ab.K.at_; exact at_) | (apply Ab.K.acall; first | assumption | exact c9) | (apply Ab.Rg.mk; omega) | (apply Ab.Lt.mk; first | decide | (simp; done) | (simp; omega) | fail) | (apply Ab.Get.mk; first | rfl | (rw [Int.toNat_natCast]; first | exact g0 | exact g1)) | (apply Ab.Nm.mk; first | exact nrm_) | (apply Xg.s; constructor) | (apply Ab.asm; assumption) | rfl | infer_instance | decide))
      exact X.roundN (n - (i + 1)) (by omega) ⟨i + 1, by exact ev_, by exact ev_, rfl, by omega, fun j hj f hf hcon => (by
        by_cases hji : j = i
        · subst hji
          rw [hi'] at hf
          obtain rfl := Option.some.inj hf
          rw [hb.2 hcon] at hlk; cases hlk
        · exact hall j (by omega) f hf hcon), rfl⟩
    · rw [hlk] at c9
      have hf : foB l = false := by
        cases hh : foB l with
        | false => rfl
        | true => exact absurd (hb.1 hlk) (foB_iff.1 hh i e hi')
      rw [hf]
      (repeat' (first | (apply Ab.K.ev; exact ev_) | (apply Ab.K.aops; first | (apply Xg.s; constructor) | (apply Ab.S.guardU; (case hd => rfl); (case hb => (exact ev_; done))) | apply Ab.S.guardG) | (apply Ab.K.aop; first | (apply Og.s; constructor)) | (apply Ab.K.gk; first | (apply Xg.s; constructor) | (apply Ab.gY; case hw => assumption) | (apply Ab.gNT; case hw => assumption) | (apply Ab.gNF; case hw => assumption) | ((first | apply Ab.gD | apply Ab.gDN); all_goals (intro _ _; (first | contradiction | (exfalso; omega) | skip)))) | (apply Ab.K.aopsD; first | (apply Ab.D.q0t; (case hw => rfl); (case hot => rfl)) | (apply Ab.D.w1t; (case hw => rfl); (case hot => rfl)) | (apply Ab.D.q0; (case hw => rfl); intro _ _) | (apply Ab.D.w1n; (case hw => rfl); intro _ _) | (apply Ab.D.w2n; (case hw => rfl); intro _ _) | (apply Xg.s; constructor) | fail | apply Ab.D.guardG) | exact ⟨rfl, rfl⟩ | (apply Ab.K.awp; first | (apply AWp.draw (id := 4) [[], [], [0, 1], [], [], [3, 4], [3, 4, 5], [3, 4, 5, 6], [], [], [8, 9], [8, 9, 10], [8, 9, 10, 11], [0, 1, 2, 3, 4, 5, 6, 7, 8, 9, 10, 11, 12]] [] (by kernel_rfl) (by kernel_rfl) (by simp [apartW, unordB, cC] <;> omega)) | (apply Xg.s; constructor)) | (apply Ab.K.at_; exact at_) | (apply Ab.K.acall; first | assumption | exact c9) | (apply Ab.Rg.mk; omega) | (apply Ab.Lt.mk; first | decide | (simp; done) | (simp; omega) | fail) | (apply Ab.Get.mk; first | rfl | (rw [Int.toNat_natCast]; first | exact g0 | exact g1)) | (apply Ab.Nm.mk; first | exact nrm_) | (apply Xg.s; constructor) | (apply Ab.asm; assumption) | rfl | infer_instance | decide))
      all_goals ((first | apply RetQ.ret | apply RetQ.normal); (case he => exact evr_); (case hg => rfl))
      all_goals first | rfl | exact Keeps.self trivial
  · have hf : foB l = true := foB_iff.2 fun j e hj hcon => hall j (by have := (List.getElem?_eq_some_iff.1 hj).1; omega) e hj hcon
    rw [hf]
    (repeat' (first | (apply Ab.K.ev; exact ev_) | (apply Ab.K.aops; first | (apply Xg.s; constructor) | (apply Ab.S.guardU; (case hd => rfl); (case hb => (exact ev_; done))) | apply Ab.S.guardG) | (apply Ab.K.aop; first | (apply Og.s; constructor)) | (apply Ab.K.gk; first | (apply Xg.s; constructor) | (apply Ab.gY; case hw => assumption) | (apply Ab.gNT; case hw => assumption) | (apply Ab.gNF; case hw => assumption) | ((first | apply Ab.gD | apply Ab.gDN); all_goals (intro _ _; (first | contradiction | (exfalso; omega) | skip)))) | (apply Ab.K.awp; first | (apply Xg.s; constructor)) | (apply Ab.K.at_; exact at_) | (apply Ab.K.acall; first | assumption | exact c9) | (apply Ab.Rg.mk; omega) | (apply Ab.Lt.mk; first | decide | (simp; done) | (simp; omega) | fail) | (apply Ab.Get.mk; first | rfl | (rw [Int.toNat_natCast]; first | exact g0 | exact g1)) | (apply Ab.Nm.mk; first | exact nrm_) | (apply Xg.s; constructor) | (apply Ab.asm; assumption) | rfl | infer_instance | decide))
    all_goals ((first | apply RetQ.ret | apply RetQ.normal); (case he => exact evr_); (case hg => rfl))
    all_goals first | rfl | exact Keeps.self trivial
/-! ### which edges may be together -/
instance {l : List E} : Decidable (Apart l) := by unfold Apart; infer_instance
instance {l : List E} : Decidable (TP.Good l) := by unfold TP.Good; infer_instance
def ckE (l : List E) : Int := if TP.Good l then 0 else 1
theorem ck_y {l : List E} (h : TP.Good l) : ckE l = 0 := if_pos h
theorem ck_n {l : List E} (h : ¬ TP.Good l) : ckE l = 1 := if_neg h
/-- What is told of pairs. -/
def Prs (l : List E) (f : Nat → Bool) : Prop := ∀ p, f p = true ↔ ∃ e ∈ l, p = e.a.toNat * 65 + e.b.toNat
theorem Prs.nil : Prs [] fun _ => false := fun p => by simp
theorem Prs.add {l : List E} {f : Nat → Bool} {e : E} (h : Prs l f) : Prs (l ++ [e]) fun j => decide (j = e.a.toNat * 65 + e.b.toNat * 1) || f j := fun p => by
  rw [Bool.or_eq_true, decide_eq_true_iff, h p, Nat.mul_one]
  simp only [List.mem_append, List.mem_singleton]
  constructor
  · rintro (h | ⟨g, hg, h⟩)
    · exact ⟨e, .inr rfl, h⟩
    · exact ⟨g, .inl hg, h⟩
  · rintro ⟨g, hg | rfl, h⟩
    · exact .inr ⟨g, hg, h⟩
    · exact .inl h
theorem Prs.met {l : List E} {f : Nat → Bool} {e : E} (h : Prs l f) (hl : ∀ g ∈ l, TP.Node g.a ∧ TP.Node g.b) (he : TP.Node e.a ∧ TP.Node e.b) : f (e.a.toNat * 65 + e.b.toNat) = true ↔ ∃ g ∈ l, g.a = e.a ∧ g.b = e.b := by
  rw [h]
  constructor
  · rintro ⟨g, hg, hp⟩
    have h1 := hl g hg
    have a1 := h1.1.1; have a2 := h1.2.1; have a3 := h1.2.2; have b1 := he.1.1; have b2 := he.2.1; have b3 := he.2.2
    exact ⟨g, hg, by omega, by omega⟩
  · rintro ⟨g, hg, h1, h2⟩
    exact ⟨g, hg, by rw [h1, h2]⟩
theorem apart_snoc {l : List E} {e : E} : Apart (l ++ [e]) ↔ Apart l ∧ ¬ ∃ g ∈ l, g.a = e.a ∧ g.b = e.b := by
  unfold Apart
  rw [List.pairwise_append]
  constructor
  · rintro ⟨h1, _, h2⟩
    exact ⟨h1, fun ⟨g, hg, h⟩ => h2 g hg e (by simp) h⟩
  · rintro ⟨h1, h2⟩
    exact ⟨h1, by simp, fun g hg f hf h => h2 ⟨g, hg, by rw [List.mem_singleton.1 hf] at h; exact h⟩⟩










end Go.Proofs.Ytdbnpghckgmaoaa
