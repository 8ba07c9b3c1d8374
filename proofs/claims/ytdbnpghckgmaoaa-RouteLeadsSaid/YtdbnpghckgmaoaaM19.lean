/- texts of this claim, one behind the other: TF, TJ7. -/
import Derived.Test.YtdbnpghckgmaoaaM14
import Derived.Test.YtdbnpghckgmaoaaM15

/- trees: the document's guard, its lists of nodes, the edges on a way. -/
namespace Go.Proofs.Ytdbnpghckgmaoaa
set_option linter.unusedVariables false
set_option linter.unusedSimpArgs false
set_option linter.unusedSectionVars false
open Go.RowKit Ab TP
attribute [local irreducible] AOps AOpsD AOp AWp put nargs AHeap.set At Free ACall thenQ blockQ roundQ RetQ Src bsn
noncomputable def okB (l : List E) (a b : Int) : Bool := decide (TP.Good l) && (foB l && (decide (TP.Node a) && decide (TP.Node b)))
theorem okB_iff {l : List E} {a b : Int} : okB l a b = true ↔ TP.Good l ∧ Forest l ∧ TP.Node a ∧ TP.Node b := by
  unfold okB
  simp only [Bool.and_eq_true, decide_eq_true_iff, foB_iff]
theorem Good.node {l : List E} (h : TP.Good l) : ∀ e ∈ l, TP.Node e.a ∧ TP.Node e.b := fun e he => ⟨(h.1 e he).1, (h.1 e he).2.1⟩




/-! ### a list that grows -/
theorem EA.own {s : AHeap} {q : Nat} {l : List E} (h : At s q (.cells true 3 (ecs l))) : EA s (.slice (some ⟨q, 0, none⟩) l.length l.length) (some q) l :=
  .blk h (Nat.le_refl _) (by rw [← ecs_length, List.take_length])
theorem NA.own {s : AHeap} {q : Nat} {l : List Int} (h : At s q (.cells true 1 (ints l))) : NA s (.slice (some ⟨q, 0, none⟩) l.length l.length) (some q) l :=
  .blk h (Nat.le_refl _) (by rw [← ints_length, List.take_length])
theorem linked14 {s : AHeap} {A : Option Addr} {n c : Nat} {on : Option Nat} {l : List E} {a : Int} {o : Nat} (h : EA s (.slice A n c) on l) (hl : ∀ e ∈ l, TP.Node e.a ∧ TP.Node e.b) (hn : n ≤ 512) (ho : s o = none) :
    ACall Try.prog 25 [.slice A n c, .int .i64 a] s (.slice (some ⟨o, 0, none⟩) (side l a).length (side l a).length) (s.set o (.cells true 1 (ints (side l a)))) := by
  have c27 := reach27 (a := a) h hl (by omega)
  refine ACall.make Try.func25 rfl (by kernel_rfl) (by decide) rfl (fun N hN => ?_)
  have hT : Top N s := hN


  (repeat' (first | (apply Ab.K.ev; exact ev_) | (apply Ab.K.aops; first | (apply Xg.s; constructor) | (apply Ab.S.guardU; (case hd => rfl); (case hb => (exact ev_; done))) | apply Ab.S.guardG) | (apply Ab.K.aop; first | (first | (apply Ab.O.allocA (l := bsn 65 fun _ => false) (N + 0); (case hid => exact frees_); (case hp => exact bsn_pl)) | (apply Ab.O.storeAll; (case hz => rfl); (case hx => exact ev_); (case hy => exact ev_); (case hs => exact at_); (case hl => exact bsn_length); (case hc => exact bsn_length)) | (apply Ab.O.build0 (N + 1) (te := ⟨.int .i64, 1, 8, .int .i64 0⟩); (case hz => exact ⟨rfl, rfl⟩); (case hid => exact frees_))) | (apply Og.s; constructor)) | (apply Ab.K.gk; first | (apply Xg.s; constructor) | (apply Ab.gY; case hw => assumption) | (apply Ab.gNT; case hw => assumption) | (apply Ab.gNF; case hw => assumption) | ((first | apply Ab.gD | apply Ab.gDN); all_goals (intro _ _; (first | contradiction | (exfalso; omega) | skip)))) | (apply Ab.K.awp; first | (apply Xg.s; constructor)) | (apply Ab.K.at_; exact at_) | (apply Ab.K.acall; first | assumption | exact c27) | (apply Ab.Rg.mk; omega) | (apply Ab.Lt.mk; first | decide | (simp; done) | (simp; omega) | fail) | (apply Ab.Get.mk; first | rfl | fail) | (apply Ab.Nm.mk; first | exact nrm_) | (apply Xg.s; constructor) | (apply Ab.asm; assumption) | rfl | infer_instance | decide))
  refine AWp.loop (fun kk tm s1 => ∃ (i q M : Nat), Ev tm (.tmp 5) (.pointer (some ⟨N + 0, 0, none⟩)) ∧ Ev tm (.tmp 6) (.slice (some ⟨q, 0, none⟩) (lkN (reachB l a) i).length (lkN (reachB l a) i).length) ∧ Ev tm (.tmp 7) (.int .i64 ((i + 1 : Nat) : Int)) ∧ At s1 (N + 0) (.cells true 1 (bsn 65 (reachB l a))) ∧ At s1 q (.cells true 1 (ints (lkN (reachB l a) i))) ∧ Fr s1 s [] ∧ N + 1 ≤ q ∧ Top M s1 ∧ i ≤ 64 ∧ kk = 64 - i) 64 ?_ ?_
  · exact ⟨0, N + 1, N + 2, by exact ev_, by exact ev_, by exact ev_, by exact at_, by exact at_, by exact fr_, Nat.le_refl _, ((hT.new (M := N)).set (by omega)).new, by omega, rfl⟩
  rintro kk tm s1 ⟨i, q, M, e5, e6, e7, a5, a6, F, hq, T, hi, hkk⟩
  have hqM := T.lt a6
  have hNM : N + 0 < M := T.lt a5
  have hlen := lkN_len (f := reachB l a) (k := i)
  by_cases hin : i < 64
  · have ga := bsn_get (n := 65) (f := reachB l a) (i := i + 1) (by omega)

    cases hf : reachB l a (i + 1)
    · rw [hf] at ga
      have hr : lkN (reachB l a) (i + 1) = lkN (reachB l a) i := by rw [lkN, if_neg (by rw [hf]; decide), List.append_nil]
      (repeat' (first | (apply Ab.K.ev; exact ev_) | (apply Ab.K.aops; first | (apply Xg.s; constructor) | (apply Ab.S.guardU; (case hd => rfl); (case hb => (exact ev_; done))) | apply Ab.S.guardG) | (apply Ab.K.aop; first | (apply Og.s; constructor)) | (apply Ab.K.gk; first | (apply Xg.s; constructor) | (apply Ab.gY; case hw => assumption) | (apply Ab.gNT; case hw => assumption) | (apply Ab.gNF; case hw => assumption) | ((first | apply Ab.gD | apply Ab.gDN); all_goals (intro _ _; (first | contradiction | (exfalso; omega) | skip)))) | (apply Ab.K.awp; first | (apply Xg.s; constructor)) | (apply Ab.K.at_; exact at_) | (apply Ab.K.acall; first | assumption | fail) | (apply Ab.Rg.mk; omega) | (apply Ab.Lt.mk; first | decide | (simp; done) | (simp; omega) | fail) | (apply Ab.Get.mk; first | rfl | first | exact ga) | (apply Ab.Nm.mk; first | exact nrm_) | (apply Xg.s; constructor) | (apply Ab.asm; assumption) | rfl | infer_instance | decide))
      exact X.roundN (64 - (i + 1)) (by omega) ⟨i + 1, q, M, by exact ev_, by rw [hr]; exact ev_, by exact ev_, a5, by rw [hr]; exact a6, F, hq, T, by omega, rfl⟩
    · rw [hf] at ga
      have hr : lkN (reachB l a) (i + 1) = lkN (reachB l a) i ++ [((i + 1 : Nat) : Int)] := by rw [lkN, if_pos hf]
      (repeat' (first | (apply Ab.K.ev; exact ev_) | (apply Ab.K.aops; first | (apply Xg.s; constructor) | (apply Ab.S.guardU; (case hd => rfl); (case hb => (exact ev_; done))) | apply Ab.S.guardG) | (apply Ab.K.aop; first | (apply Ab.O.build1 (M); (case hx => exact ev_); (case hv => exact ⟨rfl, rfl⟩); (case hz => exact ⟨rfl, rfl⟩); (case hid => exact free_)) | (apply Og.s; constructor)) | (apply Ab.K.gk; first | (apply Xg.s; constructor) | (apply Ab.gY; case hw => assumption) | (apply Ab.gNT; case hw => assumption) | (apply Ab.gNF; case hw => assumption) | ((first | apply Ab.gD | apply Ab.gDN); all_goals (intro _ _; (first | contradiction | (exfalso; omega) | skip)))) | (apply Ab.K.awp; first | (apply Xg.s; constructor)) | (apply Ab.K.at_; exact at_) | (apply Ab.K.acall; first | assumption | fail) | (apply Ab.Rg.mk; omega) | (apply Ab.Lt.mk; first | decide | (simp; done) | (simp; omega) | fail) | (apply Ab.Get.mk; first | rfl | first | exact ga) | (apply Ab.Nm.mk; first | exact nrm_) | (apply Xg.s; constructor) | (apply Ab.asm; assumption) | rfl | infer_instance | decide))
      (apply Ab.O.appendL (M + 1); (case hx => exact ev_); (case hL => first | exact LAt.nil | exact LAt.blk (by exact at_) (by first | rfl | simp [ints_length])); (case hy => exact ev_); (case hs => first | exact Src.sl (by exact at_) (by decide) (by decide) rfl | exact srcAll (by exact at_) (by first | rfl | simp [ints_length])); (case hk => rfl); (case hm => decide); (case hl => first | rfl | first | rfl | simp [ints_length]); (case hz => decide); (case hb => omega); (case hfree => exact free_))
      intro s2 g
      have out : ∀ j, j < M → q ≠ j → s2 j = s1 j := fun j hj hne => by rw [g.off _ (fun e => hne (Option.some.inj e)) (by omega), AHeap.set_other _ _ (by omega)]
      have T2 := g.topN T.new (fun q' e => by have := Option.some.inj e; omega)
      have F2 := g.fr (Fr.new (free_of (none_of T F _ (Nat.le_refl _))) F) (fun q' e => .inl (hT.none (by have := Option.some.inj e; omega)))
      have a5' : At s2 (N + 0) (.cells true 1 (bsn 65 (reachB l a))) := At.var (by rw [out _ hNM (by omega)]; exact a5.eq)
      have gh := g.hit
      (repeat' (first | (apply Ab.K.ev; exact ev_) | (apply Ab.K.aops; first | (apply Xg.s; constructor) | (apply Ab.S.guardU; (case hd => rfl); (case hb => (exact ev_; done))) | apply Ab.S.guardG) | (apply Ab.K.aop; first | (apply Og.s; constructor)) | (apply Ab.K.gk; first | (apply Xg.s; constructor) | (apply Ab.gY; case hw => assumption) | (apply Ab.gNT; case hw => assumption) | (apply Ab.gNF; case hw => assumption) | ((first | apply Ab.gD | apply Ab.gDN); all_goals (intro _ _; (first | contradiction | (exfalso; omega) | skip)))) | (apply Ab.K.awp; first | (apply Xg.s; constructor)) | (apply Ab.K.at_; exact at_) | (apply Ab.K.acall; first | assumption | fail) | (apply Ab.Rg.mk; omega) | (apply Ab.Lt.mk; first | decide | (simp; done) | (simp; omega) | fail) | (apply Ab.Get.mk; first | rfl | first | exact ga) | (apply Ab.Nm.mk; first | exact nrm_) | (apply Xg.s; constructor) | (apply Ab.asm; assumption) | rfl | infer_instance | decide))
      refine X.roundN (64 - (i + 1)) (by omega) ⟨i + 1, M + 1, M + 2, by exact ev_, by rw [hr, List.length_append]; exact ev_, by exact ev_, a5', by rw [hr, ints_append]; exact gh, F2, by omega, T2, by omega, rfl⟩
  · obtain rfl : i = 64 := by omega
    (repeat' (first | (apply Ab.K.ev; exact ev_) | (apply Ab.K.aops; first | (apply Xg.s; constructor) | (apply Ab.S.guardU; (case hd => rfl); (case hb => (exact ev_; done))) | apply Ab.S.guardG) | (apply Ab.K.aop; first | (apply Og.s; constructor)) | (apply Ab.K.gk; first | (apply Xg.s; constructor) | (apply Ab.gY; case hw => assumption) | (apply Ab.gNT; case hw => assumption) | (apply Ab.gNF; case hw => assumption) | ((first | apply Ab.gD | apply Ab.gDN); all_goals (intro _ _; (first | contradiction | (exfalso; omega) | skip)))) | (apply Ab.K.awp; first | (apply Xg.s; constructor)) | (apply Ab.K.at_; exact at_) | (apply Ab.K.acall; first | assumption | fail) | (apply Ab.Rg.mk; omega) | (apply Ab.Lt.mk; first | decide | (simp; done) | (simp; omega) | fail) | (apply Ab.Get.mk; first | rfl | first | exact ga) | (apply Ab.Nm.mk; first | exact nrm_) | (apply Xg.s; constructor) | (apply Ab.asm; assumption) | rfl | infer_instance | decide))
    apply RetQ.retR (renL (dn [(o, q, .cells true 1 (ints (side l a)))]))
    (case he => exact evr_)
    (case hg => rfl)
    · simp [resV, mpR, mpB, mp1, mpA, renL_hit, side]
    · exact KeepsR.new1 ho (hT.none (by omega)) F a6 (ints_pl _) rfl
    · simp



end Go.Proofs.Ytdbnpghckgmaoaa

/- trees: what a Join in memory does (written by gen_tj.py from c06). -/
namespace Go.Proofs.Ytdbnpghckgmaoaa
set_option linter.unusedVariables false
set_option linter.unusedSimpArgs false
set_option linter.unusedSectionVars false
open Go.RowKit Ab JP
structure JN where
  j : Nat
  u : Nat
  z : Nat
  l : Nat
  c1 : Nat
  c2 : Nat
  c3 : Nat
/-- A Join whose document's answer is 'w'. -/
def JH (J : JN) (s : AHeap) (w : List Int) : Prop := ∃ m U S L k, JAt s J.j J.u J.z J.l J.c1 J.c2 J.c3 U S L k ∧ JInv m U S L k w
def JOff (J : JN) (s2 s1 : AHeap) : Prop := ∀ i, i ≠ J.j → i ≠ J.u → i ≠ J.z → i ≠ J.l → s2 i = s1 i
theorem jset_off {s : AHeap} {j u z l c1 c2 c3 : Nat} {U S L : List Int} {k : Int} {i : Nat} (h1 : i ≠ j) (h2 : i ≠ u) (h3 : i ≠ z) (h4 : i ≠ l) : jset s j u z l c1 c2 c3 U S L k i = s i := by
  unfold jset; simp only [updH]
  rw [AHeap.set_other _ _ h1, AHeap.set_other _ _ h4, AHeap.set_other _ _ h3, AHeap.set_other _ _ h2]

def jp (J : JN) : Value := .pointer (some ⟨J.j, 0, none⟩)

theorem unite_step {J : JN} {s : AHeap} {w : List Int} (h : JH J s w) (hn : w.length ≤ 5000) (a b : Int) :
    ∃ s2, ACall Try.prog 49 [jp J, .int .i64 a, .int .i64 b] s (.bool (runite w a b).2) s2 ∧ JH J s2 (runite w a b).1 ∧ JOff J s2 s := by
  obtain ⟨m, U, S, L, k, h1, h2⟩ := h
  obtain ⟨m', U', S', L', k', c, i2, hl⟩ := unite_spec h1 h2 hn a b
  refine ⟨_, c, ⟨m', U', S', L', k', jset_at h1.ne ?_ ?_, i2⟩, fun i a b c d => jset_off a b c d⟩
  · rw [i2.ls, i2.lu]
  · rw [i2.ll, i2.lu]
theorem g_start {n : Nat} {x : Int} (h : In (start n) x) : g (start n) x = x := by
  obtain ⟨h0, h1⟩ := h
  rw [start_length] at h1
  have : g ((List.range n).map fun i : Nat => (i : Int)) x = ((x.toNat : Nat) : Int) := g_map_range n (fun i : Nat => (i : Int)) h0 h1
  show g ((List.range n).map Int.ofNat) x = x
  rw [show (Int.ofNat : Nat → Int) = fun i : Nat => (i : Int) from rfl, this]; omega
theorem cnt_start {n : Nat} {x : Int} (h : In (start n) x) : cnt (start n) x = 1 := by
  have key : ∀ k, k ≤ n → ((List.range k).filter fun i => decide (g (start n) (i : Nat) = x)).length = if x < k then 1 else 0 := by
    intro k
    induction k with
    | zero => intro _; simp; have := h.1; omega
    | succ k ih =>
      intro hk
      rw [List.range_succ, List.filter_append, List.length_append, ih (by omega)]
      have hg : g (start n) (k : Nat) = (k : Int) := g_start ⟨by omega, by rw [start_length]; omega⟩
      have h0 := h.1
      by_cases e : (k : Int) = x
      · have : ((List.filter (fun i : Nat => decide (g (start n) (i : Nat) = x)) [k]).length) = 1 := by rw [← e]; simp only [List.filter_cons, List.filter_nil, hg, decide_true, if_true]; rfl
        rw [this, if_neg (by omega), if_pos (by omega)]
      · have : ((List.filter (fun i : Nat => decide (g (start n) (i : Nat) = x)) [k]).length) = 0 := by simp only [List.filter_cons, List.filter_nil, hg, decide_eq_false e]; rfl
        rw [this]
        by_cases h1 : x < (k : Int)
        · rw [if_pos h1, if_pos (by omega)]
        · rw [if_neg h1, if_neg (by omega)]
  unfold cnt
  rw [start_length, key n (Nat.le_refl _), if_pos (by have := h.2; rw [start_length] at this; exact this)]
theorem fix_start (n : Nat) : fix (start (n + 1)) = n := by
  have key : ∀ k, k ≤ n → fixTo (start (n + 1)) (k + 1) = k := by
    intro k
    induction k with
    | zero => intro _; exact fixTo_one _
    | succ k ih =>
      intro hk
      have hg : g (start (n + 1)) ((k + 1 : Nat)) = ((k + 1 : Nat) : Int) := g_start ⟨by omega, by rw [start_length]; omega⟩
      rw [fixTo_succ, ih (by omega), if_pos ⟨by omega, hg⟩]
  have := key n (Nat.le_refl _)
  unfold fixTo at this
  unfold fix
  rw [start_length]; exact this
theorem jinv_start (n : Nat) : JInv (fun _ => 0) (start (n + 1)) (ones (n + 1)) (start (n + 1)) n (start (n + 1)) := by
  have hg : ∀ x, In (start (n + 1)) x → g (start (n + 1)) x = x := fun x h => g_start h
  have hr : ∀ x r, In (start (n + 1)) x → Root (start (n + 1)) x r → r = x := fun x r hx h => by
    exact (Root.uniq h (.here (hg x hx))).symm
  have h0 : In (start (n + 1)) 0 := ⟨by omega, by rw [start_length]; omega⟩
  refine ⟨fun i hi => ⟨by rw [hg i hi]; exact hi, .inl (hg i hi)⟩, rfl, by simp [ones, start_length], rfl, ⟨hg 0 h0, by rw [start_length]; omega, fun x hx h => by rw [hg x hx]; exact h, fun x hx => by rw [hg x hx]; exact ⟨hx.1, Int.le_refl _⟩, fun x hx => by rw [hg x hx]; exact hg x hx⟩, fun x r hx h => ?_, fun x y r q hx hy h1 h2 => ?_, by rw [fix_start]⟩
  · rw [hr x r hx h]
    refine ⟨rfl, ?_⟩
    rw [hg x hx, cnt_start hx]
    have : x.toNat < n + 1 := by have := hx.2; have := hx.1; rw [start_length] at *; omega
    simp [g, ones, List.getD, this]
  · rw [hr x r hx h1, hr y q hy h2, hg x hx, hg y hy]

def JN.free (J : JN) (s : AHeap) : Prop := s J.j = none ∧ s J.u = none ∧ s J.z = none ∧ s J.l = none
theorem new_step {s : AHeap} {n : Nat} (hn : n ≤ 4096) {J : JN} (hf : J.free s) (hne : J.j ≠ J.u ∧ J.j ≠ J.z ∧ J.j ≠ J.l ∧ J.u ≠ J.z ∧ J.u ≠ J.l ∧ J.z ≠ J.l) (hc : J.c1 = n + 1 ∧ J.c2 = n + 1 ∧ J.c3 = n + 1) :
    ∃ s2, ACall Try.prog 57 [.int .i64 n] s (.tuple #[jp J, .int .i64 0]) s2 ∧ JH J s2 (start (n + 1)) ∧ JOff J s2 s := by
  refine ⟨_, new_spec hn hf.1 hf.2.1 hf.2.2.1 hf.2.2.2 hne, ⟨_, _, _, _, _, ?_, jinv_start n⟩, fun i a b c d => jset_off a b c d⟩
  obtain ⟨e1, e2, e3⟩ := hc
  rw [e1, e2, e3]
  exact jset_at hne (by simp [ones, start_length]) rfl
theorem JOff.trans {J : JN} {a b c : AHeap} (h : JOff J a b) (h2 : JOff J b c) : JOff J a c := fun i x y z t => by rw [h i x y z t, h2 i x y z t]
theorem JH.at {J : JN} {s : AHeap} {w : List Int} (h : JH J s w) : (s J.j).isSome = true ∧ (s J.u).isSome = true ∧ (s J.z).isSome = true ∧ (s J.l).isSome = true := by
  obtain ⟨m, U, S, L, k, h1, h2⟩ := h
  exact ⟨by rw [h1.hj.eq]; rfl, by rw [h1.hu.eq]; rfl, by rw [h1.hz.eq]; rfl, by rw [h1.hl.eq]; rfl⟩
theorem JH.off {J : JN} {s2 s1 : AHeap} {w : List Int} (h : JH J s1 w) (h1 : s2 J.j = s1 J.j) (h2 : s2 J.u = s1 J.u) (h3 : s2 J.z = s1 J.z) (h4 : s2 J.l = s1 J.l) : JH J s2 w := by
  obtain ⟨m, U, S, L, k, a, b⟩ := h
  exact ⟨m, U, S, L, k, ⟨by unfold At; rw [h1]; exact a.hj, by unfold At; rw [h2]; exact a.hu, by unfold At; rw [h3]; exact a.hz, by unfold At; rw [h4]; exact a.hl, a.ls, a.ll, a.ne⟩, b⟩
theorem JOff.fr {J : JN} {s2 s1 s : AHeap} (h : JOff J s2 s1) (hf : J.free s) (h1 : Fr s1 s []) : Fr s2 s [] := fun i hi c hc => by
  rw [h i (fun e => by subst e; rw [hf.1] at hc; cases hc) (fun e => by subst e; rw [hf.2.1] at hc; cases hc) (fun e => by subst e; rw [hf.2.2.1] at hc; cases hc) (fun e => by subst e; rw [hf.2.2.2] at hc; cases hc)]
  exact h1 i hi c hc
theorem JOff.top {J : JN} {s2 s1 : AHeap} {M : Nat} (h : JOff J s2 s1) (h1 : Top M s1) (hl : J.j < M ∧ J.u < M ∧ J.z < M ∧ J.l < M) : Top M s2 := fun i hi => by
  rw [h i (by omega) (by omega) (by omega) (by omega)]; exact h1 i hi
end Go.Proofs.Ytdbnpghckgmaoaa
