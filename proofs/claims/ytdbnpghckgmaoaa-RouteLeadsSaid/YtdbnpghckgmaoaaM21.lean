/- texts of this claim, one behind the other: TG. -/
import Derived.Test.YtdbnpghckgmaoaaM19

/- trees: the document's ways. -/
namespace Go.Proofs.Ytdbnpghckgmaoaa
set_option linter.unusedVariables false
set_option linter.unusedSimpArgs false
set_option linter.unusedSectionVars false
open Go.RowKit Ab TP
attribute [local irreducible] AOps AOpsD AOp AWp put nargs AHeap.set At Free ACall thenQ blockQ roundQ RetQ Src bsn
noncomputable def onL (l : List E) (a b : Int) : List E := l.filter fun e => !lkB (rm l e) a b
theorem onL_mem {l : List E} {a b : Int} (ha : TP.Node a) (hb : TP.Node b) {e : E} : e ∈ onL l a b ↔ e ∈ l ∧ ¬ Conn (rm l e) a b := by
  unfold onL
  rw [List.mem_filter]
  constructor
  · rintro ⟨h1, h2⟩
    refine ⟨h1, fun h => ?_⟩
    rw [lkB_iff.2 ⟨ha, hb, h⟩] at h2; cases h2
  · rintro ⟨h1, h2⟩
    refine ⟨h1, ?_⟩
    cases hk : lkB (rm l e) a b with
    | false => rfl
    | true => exact absurd (lkB_iff.1 hk).2.2 h2
theorem on25 {s : AHeap} {A : Option Addr} {n c : Nat} {on : Option Nat} {l : List E} {a b : Int} {o : Nat} (h : EA s (.slice A n c) on l) (hl : ∀ e ∈ l, TP.Node e.a ∧ TP.Node e.b) (hn : n ≤ 512) (ho : s o = none) :
    ACall Try.prog 35 [.slice A n c, .int .i64 a, .int .i64 b] s (.slice (some ⟨o, 0, none⟩) (onL l a b).length (onL l a b).length) (s.set o (.cells true 3 (ecs (onL l a b)))) := by
  have hnl : n = l.length := by obtain ⟨_, _, e⟩ := h.isl; injection e
  refine ACall.make Try.func35 rfl (by kernel_rfl) (by decide) rfl (fun N hN => ?_)
  have hT : Top N s := hN

  (repeat' (first | (apply Ab.K.ev; exact ev_) | (apply Ab.K.aops; first | (apply Xg.s; constructor) | (apply Ab.S.guardU; (case hd => rfl); (case hb => (exact ev_; done))) | apply Ab.S.guardG) | (apply Ab.K.aop; first | (apply Ab.O.build0 (N + 0) (te := ⟨.struct [(0, 3), (1, 3), (2, 3)], 3, 24, .agg #[.int .i64 0, .int .i64 0, .int .i64 0]⟩); (case hz => exact ⟨rfl, rfl⟩); (case hid => exact frees_)) | (apply Og.s; constructor)) | (apply Ab.K.gk; first | (apply Xg.s; constructor) | (apply Ab.gY; case hw => assumption) | (apply Ab.gNT; case hw => assumption) | (apply Ab.gNF; case hw => assumption) | ((first | apply Ab.gD | apply Ab.gDN); all_goals (intro _ _; (first | contradiction | (exfalso; omega) | skip)))) | (apply Ab.K.awp; first | (apply Xg.s; constructor)) | (apply Ab.K.at_; exact at_) | (apply Ab.K.acall; first | assumption | fail) | (apply Ab.Rg.mk; omega) | (apply Ab.Lt.mk; first | decide | (simp; done) | (simp; omega) | fail) | (apply Ab.Get.mk; first | rfl | fail) | (apply Ab.Nm.mk; first | exact nrm_) | (apply Xg.s; constructor) | (apply Ab.asm; assumption) | rfl | infer_instance | decide))
  refine AWp.loop (fun kk tm s1 => ∃ (i q M : Nat) (r : List E), Ev tm (.tmp 0) (.slice A n c) ∧ Ev tm (.tmp 1) (.int .i64 a) ∧ Ev tm (.tmp 2) (.int .i64 b) ∧ Ev tm (.tmp 7) (.slice (some ⟨q, 0, none⟩) r.length r.length) ∧ Ev tm (.tmp 8) (.int .i64 i) ∧ At s1 q (.cells true 3 (ecs r)) ∧ r = (l.take i).filter (fun e => !lkB (rm l e) a b) ∧ Fr s1 s [] ∧ N ≤ q ∧ Top M s1 ∧ i ≤ n ∧ kk = n - i) n ?_ ?_
  · exact ⟨0, N + 0, N + 1, [], by exact ev_, by exact ev_, by exact ev_, by exact ev_, by exact ev_, by exact at_, rfl, by exact fr_, Nat.le_refl _, hT.new, by omega, rfl⟩
  rintro kk tm s1 ⟨i, q, M, r, e0, e1, e2, e7, e8, a7, hr, F, hq, T, hi, hkk⟩
  have hqM := T.lt a7
  have hrl : r.length ≤ n := by rw [hr]; exact Nat.le_trans (List.length_filter_le _ _) (by rw [List.length_take]; omega)
  by_cases hin : i < n
  · have hi' : l[i]? = some (l[i]'(by omega)) := List.getElem?_eq_getElem (by omega)
    obtain ⟨f, hff⟩ : ∃ f, f = l[i]'(by omega) := ⟨_, rfl⟩
    rw [← hff] at hi'
    have htk : l.take (i + 1) = l.take i ++ [f] := by rw [List.take_add_one, hi']; rfl
    have h1 := h.fr F
    obtain ⟨q', rw1, cs, rfl, hon, _, hq', _, hE, _⟩ := h1.elt hi'
    have hqN := h.lt hT q' hon
    have hNM : N ≤ M := by omega
    have c37 := without37 (e := f) (o := M) h1 (by omega) (T.none (Nat.le_refl _))
    have h2 : EA (s1.set M (.cells true 3 (ecs (rm l f)))) (.slice (some ⟨M, 0, none⟩) (rm l f).length (rm l f).length) (some M) (rm l f) := EA.own At.hit
    have c9 := linked9 (a := a) (b := b) h2 (fun g hg => hl g (rm_sub g hg)) (Nat.lt_of_le_of_lt rm_len (by omega))


    cases hk : lkB (rm l f) a b
    · rw [hk] at c9
      have hr2 : r ++ [f] = (l.take (i + 1)).filter (fun e => !lkB (rm l e) a b) := by rw [htk, List.filter_append, ← hr]; simp [hk]
      (repeat' (first | (apply Ab.K.ev; exact ev_) | (apply Ab.K.aops; first | (apply Xg.s; constructor) | (apply Ab.S.guardU; (case hd => rfl); (case hb => (exact ev_; done))) | apply Ab.S.guardG) | (apply Ab.K.aop; first | (apply Ab.O.build1A (M + 1); (case hx => exact ev_); (case hl => rfl); (case hz => exact ⟨rfl, rfl⟩); (case hes => decide); (case hid => exact Top.free T.new (Nat.le_refl _))) | (apply Og.s; constructor)) | (apply Ab.K.gk; first | (apply Xg.s; constructor) | (apply Ab.gY; case hw => assumption) | (apply Ab.gNT; case hw => assumption) | (apply Ab.gNF; case hw => assumption) | ((first | apply Ab.gD | apply Ab.gDN); all_goals (intro _ _; (first | contradiction | (exfalso; omega) | skip)))) | (apply Ab.K.awp; first | (apply Xg.s; constructor)) | (apply Ab.K.at_; exact at_) | (apply Ab.K.acall; first | assumption | first | exact c37 | exact c9) | (apply Ab.Rg.mk; omega) | (apply Ab.Lt.mk; first | decide | (simp; done) | (simp; omega) | omega) | (apply Ab.Get.mk; first | rfl | fail) | (apply Ab.Nm.mk; first | exact Eq.trans (congrArg (fun z => List.take _ (List.drop (z * 3) cs)) (Int.toNat_natCast i)) hE | exact nrm_) | (apply Xg.s; constructor) | (apply Ab.asm; assumption) | rfl | infer_instance | decide))
      (apply Ab.O.appendL (M + 2); (case hx => exact ev_); (case hL => first | exact LAt.nil | exact LAt.blk (by exact at_) (by first | rfl | simp [ecs_length])); (case hy => exact ev_); (case hs => first | exact Src.sl (by exact at_) (by decide) (by decide) rfl | exact srcAll (by exact at_) (by first | rfl | simp [ecs_length])); (case hk => rfl); (case hm => decide); (case hl => first | rfl | first | rfl | simp [ecs_length]); (case hz => decide); (case hb => omega); (case hfree => exact free_))
      intro s2 g
      have out : ∀ j, j < M → q ≠ j → s2 j = s1 j := fun j hj hne => by rw [g.off _ (fun e => hne (Option.some.inj e)) (by omega), AHeap.set_other _ _ (by omega), AHeap.set_other _ _ (by omega)]
      have T2 := g.topN T.new.new (fun q' e => by have := Option.some.inj e; omega)
      have F2 := g.fr (Fr.new (hT.free (by omega)) (Fr.new (hT.free (by omega)) F)) (fun q' e => .inl (hT.none (by have := Option.some.inj e; omega)))
      have gh := g.hit
      (repeat' (first | (apply Ab.K.ev; exact ev_) | (apply Ab.K.aops; first | (apply Xg.s; constructor) | (apply Ab.S.guardU; (case hd => rfl); (case hb => (exact ev_; done))) | apply Ab.S.guardG) | (apply Ab.K.aop; first | (apply Og.s; constructor)) | (apply Ab.K.gk; first | (apply Xg.s; constructor) | (apply Ab.gY; case hw => assumption) | (apply Ab.gNT; case hw => assumption) | (apply Ab.gNF; case hw => assumption) | ((first | apply Ab.gD | apply Ab.gDN); all_goals (intro _ _; (first | contradiction | (exfalso; omega) | skip)))) | (apply Ab.K.awp; first | (apply Xg.s; constructor)) | (apply Ab.K.at_; exact at_) | (apply Ab.K.acall; first | assumption | first | exact c37 | exact c9) | (apply Ab.Rg.mk; omega) | (apply Ab.Lt.mk; first | decide | (simp; done) | (simp; omega) | omega) | (apply Ab.Get.mk; first | rfl | fail) | (apply Ab.Nm.mk; first | exact Eq.trans (congrArg (fun z => List.take _ (List.drop (z * 3) cs)) (Int.toNat_natCast i)) hE | exact nrm_) | (apply Xg.s; constructor) | (apply Ab.asm; assumption) | rfl | infer_instance | decide))
      refine X.roundN (n - (i + 1)) (by omega) ⟨i + 1, M + 2, M + 3, r ++ [f], by exact ev_, by exact ev_, by exact ev_, by rw [List.length_append]; exact ev_, by exact ev_, by rw [ecs_append]; exact gh, hr2, F2, by omega, T2, by omega, rfl⟩
    · rw [hk] at c9
      have hr2 : r = (l.take (i + 1)).filter (fun e => !lkB (rm l e) a b) := by rw [htk, List.filter_append, ← hr]; simp [hk]
      (repeat' (first | (apply Ab.K.ev; exact ev_) | (apply Ab.K.aops; first | (apply Xg.s; constructor) | (apply Ab.S.guardU; (case hd => rfl); (case hb => (exact ev_; done))) | apply Ab.S.guardG) | (apply Ab.K.aop; first | (apply Og.s; constructor)) | (apply Ab.K.gk; first | (apply Xg.s; constructor) | (apply Ab.gY; case hw => assumption) | (apply Ab.gNT; case hw => assumption) | (apply Ab.gNF; case hw => assumption) | ((first | apply Ab.gD | apply Ab.gDN); all_goals (intro _ _; (first | contradiction | (exfalso; omega) | skip)))) | (apply Ab.K.awp; first | (apply Xg.s; constructor)) | (apply Ab.K.at_; exact at_) | (apply Ab.K.acall; first | assumption | first | exact c37 | exact c9) | (apply Ab.Rg.mk; omega) | (apply Ab.Lt.mk; first | decide | (simp; done) | (simp; omega) | omega) | (apply Ab.Get.mk; first | rfl | fail) | (apply Ab.Nm.mk; first | exact Eq.trans (congrArg (fun z => List.take _ (List.drop (z * 3) cs)) (Int.toNat_natCast i)) hE | exact nrm_) | (apply Xg.s; constructor) | (apply Ab.asm; assumption) | rfl | infer_instance | decide))
      exact X.roundN (n - (i + 1)) (by omega) ⟨i + 1, q, M + 1, r, by exact ev_, by exact ev_, by exact ev_, by exact ev_, by exact ev_, At.miss (by omega) a7, hr2, Fr.new (hT.free (by omega)) F, hq, T.new, by omega, rfl⟩
  · obtain rfl : i = n := by omega
    have hr2 : r = onL l a b := by rw [hr, hnl, List.take_length]; rfl
    rw [← hr2]
    (repeat' (first | (apply Ab.K.ev; exact ev_) | (apply Ab.K.aops; first | (apply Xg.s; constructor) | (apply Ab.S.guardU; (case hd => rfl); (case hb => (exact ev_; done))) | apply Ab.S.guardG) | (apply Ab.K.aop; first | (apply Og.s; constructor)) | (apply Ab.K.gk; first | (apply Xg.s; constructor) | (apply Ab.gY; case hw => assumption) | (apply Ab.gNT; case hw => assumption) | (apply Ab.gNF; case hw => assumption) | ((first | apply Ab.gD | apply Ab.gDN); all_goals (intro _ _; (first | contradiction | (exfalso; omega) | skip)))) | (apply Ab.K.awp; first | (apply Xg.s; constructor)) | (apply Ab.K.at_; exact at_) | (apply Ab.K.acall; first | assumption | first | exact c37 | exact c9) | (apply Ab.Rg.mk; omega) | (apply Ab.Lt.mk; first | decide | (simp; done) | (simp; omega) | omega) | (apply Ab.Get.mk; first | rfl | fail) | (apply Ab.Nm.mk; first | exact Eq.trans (congrArg (fun z => List.take _ (List.drop (z * 3) cs)) (Int.toNat_natCast i)) hE | exact nrm_) | (apply Xg.s; constructor) | (apply Ab.asm; assumption) | rfl | infer_instance | decide))
    apply RetQ.retR (renL (dn [(o, q, .cells true 3 (ecs r))]))
    (case he => exact evr_)
    (case hg => rfl)
    · simp [resV, mpR, mpB, mp1, mpA, renL_hit]
    · exact KeepsR.new1 ho (hT.none (by omega)) F a7 (ecs_pl _) rfl
    · simp


/-- The other end, as the document's way looks for it. -/
def oth (e : E) (n : Int) : Int := if e.b = n then e.a else if e.a = n then e.b else 0
/-- Where the document's way may go on. -/
def adm (e : E) (p : List Int) (j : Nat) (x : Int) : Prop := 0 < oth e x ∧ (j = 0 ∨ p[j - 1]? ≠ some (oth e x))
theorem oth_has {e : E} {x : Int} (h : 0 < oth e x) : e.has x (oth e x) := by
  unfold oth at *
  split
  · rename_i h1; exact .inr ⟨rfl, h1⟩
  · rename_i h1
    rw [if_neg h1] at h
    split
    · rename_i h2; exact .inl ⟨h2, rfl⟩
    · rename_i h2; rw [if_neg h2] at h; omega
theorem adm_next {p : List Int} (hnd : p.Nodup) {e : E} (ho : OnP p e) {j : Nat} {x : Int} (hx : p[j]? = some x) (ha : adm e p j x) : p[j + 1]? = some (oth e x) := by
  rcases ho.at hnd hx (oth_has ha.1) with h | ⟨h1, h2⟩
  · exact h
  · rcases ha.2 with h3 | h3
    · omega
    · exact absurd h2 h3
theorem adm_ex {l : List E} (hg : TP.Good l) {a b : Int} {p : List Int} (hw : TP.Way l a b p) {j : Nat} {x y : Int} (hx : p[j]? = some x) (hy : p[j + 1]? = some y) : ∃ e ∈ l, OnP p e ∧ adm e p j x := by
  obtain ⟨e, he, hh, ho⟩ := hw.edge hx hy
  have hm := hg.1 e he
  have h1 := hm.1.1; have h2 := hm.2.1.1; have h3 := hm.2.2.1
  have hoy : oth e x = y := by
    unfold oth
    rcases hh with ⟨h4, h5⟩ | ⟨h4, h5⟩
    · rw [if_neg (by omega), if_pos h4, h5]
    · rw [if_pos h5, h4]
  refine ⟨e, he, ho, by rw [hoy]; rcases hh with ⟨_, h5⟩ | ⟨h4, _⟩ <;> omega, ?_⟩
  by_cases hj : j = 0
  · exact .inl hj
  · refine .inr fun h => ?_
    rw [hoy] at h
    obtain ⟨a1, a2⟩ := List.getElem?_eq_some_iff.1 h
    obtain ⟨b1, b2⟩ := List.getElem?_eq_some_iff.1 hy
    have := (List.getElem_inj (h₀ := a1) (h₁ := b1) hw.nodup).1 (a2.trans b2.symm)
    omega
set_option maxRecDepth 4000 in
set_option maxHeartbeats 8000000 in
theorem way23 {s : AHeap} {A : Option Addr} {n c : Nat} {on : Option Nat} {l : List E} {a b : Int} {p : List Int} {o : Nat} (h : EA s (.slice A n c) on l) (hg : TP.Good l) (hc : Cut l) (hw : TP.Way l a b p) (ha : TP.Node a) (hb : TP.Node b) (hn : n ≤ 512) (ho : s o = none) :
    ACall Try.prog 23 [.slice A n c, .int .i64 a, .int .i64 b] s (.slice (some ⟨o, 0, none⟩) p.length p.length) (s.set o (.cells true 1 (ints p))) := by
  have hnl : n = l.length := by obtain ⟨_, _, e⟩ := h.isl; injection e
  have hp64 := hw.short (Good.node hg) ha
  refine ACall.make Try.func23 rfl (by kernel_rfl) (by decide) rfl (fun N hN => ?_)
  have hT : Top N s := hN
  have c25 := on25 (a := a) (b := b) (o := N) h (Good.node hg) hn (hT.none (Nat.le_refl _))
  obtain ⟨R, hR⟩ : ∃ R, R = onL l a b := ⟨_, rfl⟩
  rw [← hR] at c25
  have hRm : ∀ e, e ∈ R ↔ e ∈ l ∧ OnP p e := fun e => by
    rw [hR, onL_mem ha hb]
    exact ⟨fun h => ⟨h.1, (on_iff hc hw h.1).1 h.2⟩, fun h => ⟨h.1, (on_iff hc hw h.1).2 h.2⟩⟩
  have hRl : R.length ≤ 512 := by rw [hR]; exact Nat.le_trans (List.length_filter_le _ _) (by omega)
  have T0 : Top (N + 1) (s.set N (.cells true 3 (ecs R))) := hT.new
  have hp0 := hw.first
  have hpl : 1 ≤ p.length := by obtain ⟨t, rfl⟩ := hw.head; simp


  (repeat' (first | (apply Ab.K.ev; exact ev_) | (apply Ab.K.aops; first | (apply Xg.s; constructor) | (apply Ab.S.guardU; (case hd => rfl); (case hb => (exact ev_; done))) | apply Ab.S.guardG) | (apply Ab.K.aop; first | (apply Ab.O.build1 (N + 1); (case hx => exact ev_); (case hv => exact ⟨rfl, rfl⟩); (case hz => exact ⟨rfl, rfl⟩); (case hid => exact T0.free (Nat.le_refl _))) | (apply Og.s; constructor)) | (apply Ab.K.gk; first | (apply Xg.s; constructor) | (apply Ab.gY; case hw => assumption) | (apply Ab.gNT; case hw => assumption) | (apply Ab.gNF; case hw => assumption) | ((first | apply Ab.gD | apply Ab.gDN); all_goals (intro _ _; (first | contradiction | (exfalso; omega) | skip)))) | (apply Ab.K.awp; first | (apply Xg.s; constructor)) | (apply Ab.K.at_; exact at_) | (apply Ab.K.acall; first | assumption | exact c25) | (apply Ab.Rg.mk; omega) | (apply Ab.Lt.mk; first | decide | (simp; done) | (simp; omega) | omega) | (apply Ab.Get.mk; first | rfl | fail) | (apply Ab.Nm.mk; first | exact nrm_) | (apply Xg.s; constructor) | (apply Ab.asm; assumption) | rfl | infer_instance | decide))

  refine AWp.loop (fun kk tm s1 => ∃ (j q M : Nat), Ev tm (.tmp 2) (.int .i64 b) ∧ Ev tm (.tmp 7) (.slice (some ⟨N, 0, none⟩) R.length R.length) ∧ Ev tm (.tmp 8) (.slice (some ⟨q, 0, none⟩) (j + 1) (j + 1)) ∧ Ev tm (.tmp 9) (.int .i64 j) ∧ At s1 N (.cells true 3 (ecs R)) ∧ At s1 q (.cells true 1 (ints (p.take (j + 1)))) ∧ Fr s1 s [] ∧ N + 1 ≤ q ∧ Top M s1 ∧ j + 1 ≤ p.length ∧ kk = p.length - (j + 1)) (p.length - 1) ?_ ?_
  · refine ⟨0, N + 1, N + 2, by exact ev_, by exact ev_, by exact ev_, by exact ev_, by exact at_, ?_, by exact fr_, Nat.le_refl _, T0.new, hpl, rfl⟩
    rw [ints_take hp0]; exact At.hit
  rintro kk tm s1 ⟨j, q, M, e2, e7, e8, e9, a7, a8, F, hq, T, hj, hkk⟩
  have hqM := T.lt a8
  have hNM := T.lt a7
  obtain ⟨x, hx⟩ : ∃ x, p[j]? = some x := ⟨_, List.getElem?_eq_getElem (by omega)⟩
  have hcx : ∀ i y, i ≤ j → p[i]? = some y → (ints (p.take (j + 1)))[i]? = some (.int .i64 y) := fun i y hi hy => ints_get (by rw [List.getElem?_take, if_pos (by omega)]; exact hy)
  have hcl : (ints (p.take (j + 1))).length = j + 1 := by rw [ints_length, List.length_take]; omega
  have gx : (ints (p.take (j + 1)))[j]? = some (.int .i64 x) := hcx j x (Nat.le_refl _) hx
  by_cases hlast : j + 1 = p.length
  · have hxb : x = b := by
      have := hw.last
      rw [show p.length - 1 = j from by omega, hx] at this
      exact Option.some.inj this
    subst hxb
    rw [hlast, List.take_length] at a8
    rw [hlast] at e8
    have gx2 := gx
    rw [hlast, List.take_length] at gx2
    (repeat' (first | (apply Ab.K.ev; exact ev_) | (apply Ab.K.aops; first | (apply Xg.s; constructor) | (apply Ab.S.guardU; (case hd => rfl); (case hb => (exact ev_; done))) | apply Ab.S.guardG) | (apply Ab.K.aop; first | (apply Og.s; constructor)) | (apply Ab.K.gk; first | (apply Xg.s; constructor) | (apply Ab.gY; case hw => assumption) | (apply Ab.gNT; case hw => assumption) | (apply Ab.gNF; case hw => assumption) | ((first | apply Ab.gD | apply Ab.gDN); all_goals (intro _ _; (first | contradiction | (exfalso; omega) | skip)))) | (apply Ab.K.awp; first | (apply Xg.s; constructor)) | (apply Ab.K.at_; exact at_) | (apply Ab.K.acall; first | assumption | fail) | (apply Ab.Rg.mk; omega) | (apply Ab.Lt.mk; first | decide | (simp; done) | (simp; omega) | omega) | (apply Ab.Get.mk; first | rfl | first | (rw [show (((p.length : Nat) : Int) - 1).toNat = j from by omega]; exact gx2)) | (apply Ab.Nm.mk; first | exact nrm_) | (apply Xg.s; constructor) | (apply Ab.asm; assumption) | rfl | infer_instance | decide))
    apply RetQ.retR (renL (dn [(o, q, .cells true 1 (ints p))]))
    (case he => exact evr_)
    (case hg => rfl)
    · simp [resV, mpR, mpB, mp1, mpA, renL_hit]
    · exact KeepsR.new1 ho (hT.none (by omega)) F a8 (ints_pl _) rfl
    · simp
  · have hxb : x ≠ b := fun e => by
      obtain ⟨a1, a2⟩ := List.getElem?_eq_some_iff.1 hx
      obtain ⟨b1, b2⟩ := List.getElem?_eq_some_iff.1 hw.last
      have := (List.getElem_inj (h₀ := a1) (h₁ := b1) hw.nodup).1 (a2.trans (e.trans b2.symm))
      omega
    obtain ⟨y, hy⟩ : ∃ y, p[j + 1]? = some y := ⟨_, List.getElem?_eq_getElem (by omega)⟩
    obtain ⟨e', he', ho', ha'⟩ := adm_ex hg hw hx hy
    obtain ⟨i', hi', hie'⟩ := List.mem_iff_getElem.1 ((hRm e').2 ⟨he', ho'⟩)
    (repeat' (first | (apply Ab.K.ev; exact ev_) | (apply Ab.K.aops; first | (apply Xg.s; constructor) | (apply Ab.S.guardU; (case hd => rfl); (case hb => (exact ev_; done))) | apply Ab.S.guardG) | (apply Ab.K.aop; first | (apply Og.s; constructor)) | (apply Ab.K.gk; first | (apply Xg.s; constructor) | (apply Ab.gY; case hw => assumption) | (apply Ab.gNT; case hw => assumption) | (apply Ab.gNF; case hw => assumption) | ((first | apply Ab.gD | apply Ab.gDN); all_goals (intro _ _; (first | contradiction | (exfalso; omega) | skip)))) | (apply Ab.K.awp; first | (apply Xg.s; constructor)) | (apply Ab.K.at_; exact at_) | (apply Ab.K.acall; first | assumption | fail) | (apply Ab.Rg.mk; omega) | (apply Ab.Lt.mk; first | decide | (simp; done) | (simp; omega) | omega) | (apply Ab.Get.mk; first | rfl | first | (rw [show (((j + 1 : Nat) : Int) - 1).toNat = j from by omega]; exact gx)) | (apply Ab.Nm.mk; first | exact nrm_) | (apply Xg.s; constructor) | (apply Ab.asm; assumption) | rfl | infer_instance | decide))
    refine AWp.loop (fun k2 tm s2 => ∃ i : Nat, Ev tm (.tmp 2) (.int .i64 b) ∧ Ev tm (.tmp 7) (.slice (some ⟨N, 0, none⟩) R.length R.length) ∧ Ev tm (.tmp 8) (.slice (some ⟨q, 0, none⟩) (j + 1) (j + 1)) ∧ Ev tm (.tmp 9) (.int .i64 j) ∧ Ev tm (.tmp 10) (.int .i64 x) ∧ Ev tm (.tmp 11) (.int .i64 i) ∧ s2 = s1 ∧ i ≤ R.length ∧ (∀ k e, k < i → R[k]? = some e → ¬ adm e p j x) ∧ k2 = R.length - i) R.length ?_ ?_
    · exact ⟨0, by exact ev_, by exact ev_, by exact ev_, by exact ev_, by exact ev_, by exact ev_, rfl, by omega, fun k e hk => by omega, rfl⟩
    clear e2 e7 e8 e9
    rintro k2 tm s2 ⟨i, e2, e7, e8, e9, e10, e11, rfl, hi, hall, hk2⟩
    have hin : i < R.length := by
      rcases Nat.lt_or_ge i R.length with h | h
      · exact h
      · exact absurd ha' (hall i' e' (by omega) (by rw [List.getElem?_eq_getElem hi', hie']))
    obtain ⟨e, hee⟩ : ∃ e, R[i]? = some e := ⟨_, List.getElem?_eq_getElem hin⟩
    obtain ⟨hel, heo⟩ := (hRm e).1 (List.mem_of_getElem? hee)
    have hem := hg.1 e hel
    have m1 := hem.1.1; have m2 := hem.2.1.1; have m3 := hem.2.2.1
    have g0 : (ecs R)[i * 3]? = some (.int .i64 e.a) := ecs_cell hee 0 (by omega)
    have g1 : (ecs R)[i * 3 + 1]? = some (.int .i64 e.b) := ecs_cell hee 1 (by omega)
    have hsh : (e.b = x ∧ e.a ≠ x ∧ oth e x = e.a) ∨ (e.a = x ∧ e.b ≠ x ∧ oth e x = e.b) ∨ (e.a ≠ x ∧ e.b ≠ x ∧ oth e x = 0) := by
      unfold oth
      by_cases h1 : e.b = x
      · exact .inl ⟨h1, by omega, if_pos h1⟩
      · by_cases h2 : e.a = x
        · exact .inr (.inl ⟨h2, h1, by rw [if_neg h1, if_pos h2]⟩)
        · exact .inr (.inr ⟨h2, h1, by rw [if_neg h1, if_neg h2]⟩)
    have hzz : j = 0 ∨ ∃ z, p[j - 1]? = some z := by
      by_cases hj0 : j = 0
      · exact .inl hj0
      · exact .inr ⟨_, List.getElem?_eq_getElem (by omega)⟩



    by_cases had : adm e p j x
    · have hnx := adm_next hw.nodup heo hx had
      obtain ⟨had1, had2⟩ := had
      rcases hsh with ⟨s1, s2', s3'⟩ | ⟨s1, s2', s3'⟩ | ⟨_, _, s3'⟩
      · rw [s3'] at hnx had1 had2
        rcases hzz with hj0 | ⟨z, hz⟩
        · (repeat' (first | (apply Ab.K.ev; exact ev_) | (apply Ab.K.aops; first | (apply Xg.s; constructor) | (apply Ab.S.guardU; (case hd => rfl); (case hb => (exact ev_; done))) | apply Ab.S.guardG) | (apply Ab.K.aop; first | (apply Ab.O.build1 (M); (case hx => exact ev_); (case hv => exact ⟨rfl, rfl⟩); (case hz => exact ⟨rfl, rfl⟩); (case hid => exact free_)) | (apply Og.s; constructor)) | (apply Ab.K.gk; first | (apply Xg.s; constructor) | (apply Ab.gY; case hw => assumption) | (apply Ab.gNT; case hw => assumption) | (apply Ab.gNF; case hw => assumption) | ((first | apply Ab.gD | apply Ab.gDN); all_goals (intro _ _; (first | contradiction | (exfalso; omega) | skip)))) | (apply Ab.K.awp; first | (apply Xg.s; constructor)) | (apply Ab.K.at_; exact at_) | (apply Ab.K.acall; first | assumption | fail) | (apply Ab.Rg.mk; omega) | (apply Ab.Lt.mk; first | decide | (simp; done) | (simp; omega) | (rw [ecs_length]; omega)) | (apply Ab.Get.mk; first | rfl | first | (rw [Int.toNat_natCast]; first | exact g0 | exact g1) | (rw [show (((j + 1 : Nat) : Int) - 2).toNat = j - 1 from by omega]; exact gp)) | (apply Ab.Nm.mk; first | exact nrm_) | (apply Xg.s; constructor) | (apply Ab.asm; assumption) | rfl | infer_instance | decide))
          (apply Ab.O.appendL (M + 1); (case hx => exact ev_); (case hL => first | exact LAt.nil | exact LAt.blk (by exact at_) (by first | rfl | exact hcl | (rw [Nat.mul_one]; exact hcl) | simp [ints_length])); (case hy => exact ev_); (case hs => first | exact Src.sl (by exact at_) (by decide) (by decide) rfl | exact srcAll (by exact at_) (by first | rfl | exact hcl | (rw [Nat.mul_one]; exact hcl) | simp [ints_length])); (case hk => rfl); (case hm => decide); (case hl => first | rfl | first | rfl | exact hcl | (rw [Nat.mul_one]; exact hcl) | simp [ints_length]); (case hz => decide); (case hb => omega); (case hfree => exact free_))
          intro s3 g
          have out : ∀ k, k < M → q ≠ k → s3 k = s2 k := fun k hk hne => by rw [g.off _ (fun e => hne (Option.some.inj e)) (by omega), AHeap.set_other _ _ (by omega)]
          have T2 := g.topN T.new (fun q' e => by have := Option.some.inj e; omega)
          have F2 := g.fr (Fr.new (hT.free (by omega)) F) (fun q' e => .inl (hT.none (by have := Option.some.inj e; omega)))
          have a7' : At s3 N (.cells true 3 (ecs R)) := At.var (by rw [out _ hNM (by omega)]; exact a7.eq)
          have gh := g.hit
          rw [← ints_take hnx] at gh
          (repeat' (first | (apply Ab.K.ev; exact ev_) | (apply Ab.K.aops; first | (apply Xg.s; constructor) | (apply Ab.S.guardU; (case hd => rfl); (case hb => (exact ev_; done))) | apply Ab.S.guardG) | (apply Ab.K.aop; first | (apply Ab.O.build1 (M); (case hx => exact ev_); (case hv => exact ⟨rfl, rfl⟩); (case hz => exact ⟨rfl, rfl⟩); (case hid => exact free_)) | (apply Og.s; constructor)) | (apply Ab.K.gk; first | (apply Xg.s; constructor) | (apply Ab.gY; case hw => assumption) | (apply Ab.gNT; case hw => assumption) | (apply Ab.gNF; case hw => assumption) | ((first | apply Ab.gD | apply Ab.gDN); all_goals (intro _ _; (first | contradiction | (exfalso; omega) | skip)))) | (apply Ab.K.awp; first | (apply Xg.s; constructor)) | (apply Ab.K.at_; exact at_) | (apply Ab.K.acall; first | assumption | fail) | (apply Ab.Rg.mk; omega) | (apply Ab.Lt.mk; first | decide | (simp; done) | (simp; omega) | (rw [ecs_length]; omega)) | (apply Ab.Get.mk; first | rfl | first | (rw [Int.toNat_natCast]; first | exact g0 | exact g1) | (rw [show (((j + 1 : Nat) : Int) - 2).toNat = j - 1 from by omega]; exact gp)) | (apply Ab.Nm.mk; first | exact nrm_) | (apply Xg.s; constructor) | (apply Ab.asm; assumption) | rfl | infer_instance | decide))
          exact X.roundN (p.length - (j + 1 + 1)) (by omega) ⟨j + 1, M + 1, M + 2, by exact ev_, by exact ev_, by exact ev_, by exact ev_, a7', gh, F2, by omega, T2, by omega, rfl⟩
        · by_cases hj0 : j = 0
          · (repeat' (first | (apply Ab.K.ev; exact ev_) | (apply Ab.K.aops; first | (apply Xg.s; constructor) | (apply Ab.S.guardU; (case hd => rfl); (case hb => (exact ev_; done))) | apply Ab.S.guardG) | (apply Ab.K.aop; first | (apply Ab.O.build1 (M); (case hx => exact ev_); (case hv => exact ⟨rfl, rfl⟩); (case hz => exact ⟨rfl, rfl⟩); (case hid => exact free_)) | (apply Og.s; constructor)) | (apply Ab.K.gk; first | (apply Xg.s; constructor) | (apply Ab.gY; case hw => assumption) | (apply Ab.gNT; case hw => assumption) | (apply Ab.gNF; case hw => assumption) | ((first | apply Ab.gD | apply Ab.gDN); all_goals (intro _ _; (first | contradiction | (exfalso; omega) | skip)))) | (apply Ab.K.awp; first | (apply Xg.s; constructor)) | (apply Ab.K.at_; exact at_) | (apply Ab.K.acall; first | assumption | fail) | (apply Ab.Rg.mk; omega) | (apply Ab.Lt.mk; first | decide | (simp; done) | (simp; omega) | (rw [ecs_length]; omega)) | (apply Ab.Get.mk; first | rfl | first | (rw [Int.toNat_natCast]; first | exact g0 | exact g1) | (rw [show (((j + 1 : Nat) : Int) - 2).toNat = j - 1 from by omega]; exact gp)) | (apply Ab.Nm.mk; first | exact nrm_) | (apply Xg.s; constructor) | (apply Ab.asm; assumption) | rfl | infer_instance | decide))
            (apply Ab.O.appendL (M + 1); (case hx => exact ev_); (case hL => first | exact LAt.nil | exact LAt.blk (by exact at_) (by first | rfl | exact hcl | (rw [Nat.mul_one]; exact hcl) | simp [ints_length])); (case hy => exact ev_); (case hs => first | exact Src.sl (by exact at_) (by decide) (by decide) rfl | exact srcAll (by exact at_) (by first | rfl | exact hcl | (rw [Nat.mul_one]; exact hcl) | simp [ints_length])); (case hk => rfl); (case hm => decide); (case hl => first | rfl | first | rfl | exact hcl | (rw [Nat.mul_one]; exact hcl) | simp [ints_length]); (case hz => decide); (case hb => omega); (case hfree => exact free_))
            intro s3 g
            have out : ∀ k, k < M → q ≠ k → s3 k = s2 k := fun k hk hne => by rw [g.off _ (fun e => hne (Option.some.inj e)) (by omega), AHeap.set_other _ _ (by omega)]
            have T2 := g.topN T.new (fun q' e => by have := Option.some.inj e; omega)
            have F2 := g.fr (Fr.new (hT.free (by omega)) F) (fun q' e => .inl (hT.none (by have := Option.some.inj e; omega)))
            have a7' : At s3 N (.cells true 3 (ecs R)) := At.var (by rw [out _ hNM (by omega)]; exact a7.eq)
            have gh := g.hit
            rw [← ints_take hnx] at gh
            (repeat' (first | (apply Ab.K.ev; exact ev_) | (apply Ab.K.aops; first | (apply Xg.s; constructor) | (apply Ab.S.guardU; (case hd => rfl); (case hb => (exact ev_; done))) | apply Ab.S.guardG) | (apply Ab.K.aop; first | (apply Ab.O.build1 (M); (case hx => exact ev_); (case hv => exact ⟨rfl, rfl⟩); (case hz => exact ⟨rfl, rfl⟩); (case hid => exact free_)) | (apply Og.s; constructor)) | (apply Ab.K.gk; first | (apply Xg.s; constructor) | (apply Ab.gY; case hw => assumption) | (apply Ab.gNT; case hw => assumption) | (apply Ab.gNF; case hw => assumption) | ((first | apply Ab.gD | apply Ab.gDN); all_goals (intro _ _; (first | contradiction | (exfalso; omega) | skip)))) | (apply Ab.K.awp; first | (apply Xg.s; constructor)) | (apply Ab.K.at_; exact at_) | (apply Ab.K.acall; first | assumption | fail) | (apply Ab.Rg.mk; omega) | (apply Ab.Lt.mk; first | decide | (simp; done) | (simp; omega) | (rw [ecs_length]; omega)) | (apply Ab.Get.mk; first | rfl | first | (rw [Int.toNat_natCast]; first | exact g0 | exact g1) | (rw [show (((j + 1 : Nat) : Int) - 2).toNat = j - 1 from by omega]; exact gp)) | (apply Ab.Nm.mk; first | exact nrm_) | (apply Xg.s; constructor) | (apply Ab.asm; assumption) | rfl | infer_instance | decide))
            exact X.roundN (p.length - (j + 1 + 1)) (by omega) ⟨j + 1, M + 1, M + 2, by exact ev_, by exact ev_, by exact ev_, by exact ev_, a7', gh, F2, by omega, T2, by omega, rfl⟩
          · have gp := hcx (j - 1) z (by omega) hz
            have hzo : e.a ≠ z := fun h => had2.elim hj0 (fun h2 => h2 (by rw [hz, h]))
            (repeat' (first | (apply Ab.K.ev; exact ev_) | (apply Ab.K.aops; first | (apply Xg.s; constructor) | (apply Ab.S.guardU; (case hd => rfl); (case hb => (exact ev_; done))) | apply Ab.S.guardG) | (apply Ab.K.aop; first | (apply Ab.O.build1 (M); (case hx => exact ev_); (case hv => exact ⟨rfl, rfl⟩); (case hz => exact ⟨rfl, rfl⟩); (case hid => exact free_)) | (apply Og.s; constructor)) | (apply Ab.K.gk; first | (apply Xg.s; constructor) | (apply Ab.gY; case hw => assumption) | (apply Ab.gNT; case hw => assumption) | (apply Ab.gNF; case hw => assumption) | ((first | apply Ab.gD | apply Ab.gDN); all_goals (intro _ _; (first | contradiction | (exfalso; omega) | skip)))) | (apply Ab.K.awp; first | (apply Xg.s; constructor)) | (apply Ab.K.at_; exact at_) | (apply Ab.K.acall; first | assumption | fail) | (apply Ab.Rg.mk; omega) | (apply Ab.Lt.mk; first | decide | (simp; done) | (simp; omega) | (rw [ecs_length]; omega)) | (apply Ab.Get.mk; first | rfl | first | (rw [Int.toNat_natCast]; first | exact g0 | exact g1) | (rw [show (((j + 1 : Nat) : Int) - 2).toNat = j - 1 from by omega]; exact gp)) | (apply Ab.Nm.mk; first | exact nrm_) | (apply Xg.s; constructor) | (apply Ab.asm; assumption) | rfl | infer_instance | decide))
            (apply Ab.O.appendL (M + 1); (case hx => exact ev_); (case hL => first | exact LAt.nil | exact LAt.blk (by exact at_) (by first | rfl | exact hcl | (rw [Nat.mul_one]; exact hcl) | simp [ints_length])); (case hy => exact ev_); (case hs => first | exact Src.sl (by exact at_) (by decide) (by decide) rfl | exact srcAll (by exact at_) (by first | rfl | exact hcl | (rw [Nat.mul_one]; exact hcl) | simp [ints_length])); (case hk => rfl); (case hm => decide); (case hl => first | rfl | first | rfl | exact hcl | (rw [Nat.mul_one]; exact hcl) | simp [ints_length]); (case hz => decide); (case hb => omega); (case hfree => exact free_))
            intro s3 g
            have out : ∀ k, k < M → q ≠ k → s3 k = s2 k := fun k hk hne => by rw [g.off _ (fun e => hne (Option.some.inj e)) (by omega), AHeap.set_other _ _ (by omega)]
            have T2 := g.topN T.new (fun q' e => by have := Option.some.inj e; omega)
            have F2 := g.fr (Fr.new (hT.free (by omega)) F) (fun q' e => .inl (hT.none (by have := Option.some.inj e; omega)))
            have a7' : At s3 N (.cells true 3 (ecs R)) := At.var (by rw [out _ hNM (by omega)]; exact a7.eq)
            have gh := g.hit
            rw [← ints_take hnx] at gh
            (repeat' (first | (apply Ab.K.ev; exact ev_) | (apply Ab.K.aops; first | (apply Xg.s; constructor) | (apply Ab.S.guardU; (case hd => rfl); (case hb => (exact ev_; done))) | apply Ab.S.guardG) | (apply Ab.K.aop; first | (apply Ab.O.build1 (M); (case hx => exact ev_); (case hv => exact ⟨rfl, rfl⟩); (case hz => exact ⟨rfl, rfl⟩); (case hid => exact free_)) | (apply Og.s; constructor)) | (apply Ab.K.gk; first | (apply Xg.s; constructor) | (apply Ab.gY; case hw => assumption) | (apply Ab.gNT; case hw => assumption) | (apply Ab.gNF; case hw => assumption) | ((first | apply Ab.gD | apply Ab.gDN); all_goals (intro _ _; (first | contradiction | (exfalso; omega) | skip)))) | (apply Ab.K.awp; first | (apply Xg.s; constructor)) | (apply Ab.K.at_; exact at_) | (apply Ab.K.acall; first | assumption | fail) | (apply Ab.Rg.mk; omega) | (apply Ab.Lt.mk; first | decide | (simp; done) | (simp; omega) | (rw [ecs_length]; omega)) | (apply Ab.Get.mk; first | rfl | first | (rw [Int.toNat_natCast]; first | exact g0 | exact g1) | (rw [show (((j + 1 : Nat) : Int) - 2).toNat = j - 1 from by omega]; exact gp)) | (apply Ab.Nm.mk; first | exact nrm_) | (apply Xg.s; constructor) | (apply Ab.asm; assumption) | rfl | infer_instance | decide))
            exact X.roundN (p.length - (j + 1 + 1)) (by omega) ⟨j + 1, M + 1, M + 2, by exact ev_, by exact ev_, by exact ev_, by exact ev_, a7', gh, F2, by omega, T2, by omega, rfl⟩
      · rw [s3'] at hnx had1 had2
        rcases hzz with hj0 | ⟨z, hz⟩
        · (repeat' (first | (apply Ab.K.ev; exact ev_) | (apply Ab.K.aops; first | (apply Xg.s; constructor) | (apply Ab.S.guardU; (case hd => rfl); (case hb => (exact ev_; done))) | apply Ab.S.guardG) | (apply Ab.K.aop; first | (apply Ab.O.build1 (M); (case hx => exact ev_); (case hv => exact ⟨rfl, rfl⟩); (case hz => exact ⟨rfl, rfl⟩); (case hid => exact free_)) | (apply Og.s; constructor)) | (apply Ab.K.gk; first | (apply Xg.s; constructor) | (apply Ab.gY; case hw => assumption) | (apply Ab.gNT; case hw => assumption) | (apply Ab.gNF; case hw => assumption) | ((first | apply Ab.gD | apply Ab.gDN); all_goals (intro _ _; (first | contradiction | (exfalso; omega) | skip)))) | (apply Ab.K.awp; first | (apply Xg.s; constructor)) | (apply Ab.K.at_; exact at_) | (apply Ab.K.acall; first | assumption | fail) | (apply Ab.Rg.mk; omega) | (apply Ab.Lt.mk; first | decide | (simp; done) | (simp; omega) | (rw [ecs_length]; omega)) | (apply Ab.Get.mk; first | rfl | first | (rw [Int.toNat_natCast]; first | exact g0 | exact g1) | (rw [show (((j + 1 : Nat) : Int) - 2).toNat = j - 1 from by omega]; exact gp)) | (apply Ab.Nm.mk; first | exact nrm_) | (apply Xg.s; constructor) | (apply Ab.asm; assumption) | rfl | infer_instance | decide))
          (apply Ab.O.appendL (M + 1); (case hx => exact ev_); (case hL => first | exact LAt.nil | exact LAt.blk (by exact at_) (by first | rfl | exact hcl | (rw [Nat.mul_one]; exact hcl) | simp [ints_length])); (case hy => exact ev_); (case hs => first | exact Src.sl (by exact at_) (by decide) (by decide) rfl | exact srcAll (by exact at_) (by first | rfl | exact hcl | (rw [Nat.mul_one]; exact hcl) | simp [ints_length])); (case hk => rfl); (case hm => decide); (case hl => first | rfl | first | rfl | exact hcl | (rw [Nat.mul_one]; exact hcl) | simp [ints_length]); (case hz => decide); (case hb => omega); (case hfree => exact free_))
          intro s3 g
          have out : ∀ k, k < M → q ≠ k → s3 k = s2 k := fun k hk hne => by rw [g.off _ (fun e => hne (Option.some.inj e)) (by omega), AHeap.set_other _ _ (by omega)]
          have T2 := g.topN T.new (fun q' e => by have := Option.some.inj e; omega)
          have F2 := g.fr (Fr.new (hT.free (by omega)) F) (fun q' e => .inl (hT.none (by have := Option.some.inj e; omega)))
          have a7' : At s3 N (.cells true 3 (ecs R)) := At.var (by rw [out _ hNM (by omega)]; exact a7.eq)
          have gh := g.hit
          rw [← ints_take hnx] at gh
          (repeat' (first | (apply Ab.K.ev; exact ev_) | (apply Ab.K.aops; first | (apply Xg.s; constructor) | (apply Ab.S.guardU; (case hd => rfl); (case hb => (exact ev_; done))) | apply Ab.S.guardG) | (apply Ab.K.aop; first | (apply Ab.O.build1 (M); (case hx => exact ev_); (case hv => exact ⟨rfl, rfl⟩); (case hz => exact ⟨rfl, rfl⟩); (case hid => exact free_)) | (apply Og.s; constructor)) | (apply Ab.K.gk; first | (apply Xg.s; constructor) | (apply Ab.gY; case hw => assumption) | (apply Ab.gNT; case hw => assumption) | (apply Ab.gNF; case hw => assumption) | ((first | apply Ab.gD | apply Ab.gDN); all_goals (intro _ _; (first | contradiction | (exfalso; omega) | skip)))) | (apply Ab.K.awp; first | (apply Xg.s; constructor)) | (apply Ab.K.at_; exact at_) | (apply Ab.K.acall; first | assumption | fail) | (apply Ab.Rg.mk; omega) | (apply Ab.Lt.mk; first | decide | (simp; done) | (simp; omega) | (rw [ecs_length]; omega)) | (apply Ab.Get.mk; first | rfl | first | (rw [Int.toNat_natCast]; first | exact g0 | exact g1) | (rw [show (((j + 1 : Nat) : Int) - 2).toNat = j - 1 from by omega]; exact gp)) | (apply Ab.Nm.mk; first | exact nrm_) | (apply Xg.s; constructor) | (apply Ab.asm; assumption) | rfl | infer_instance | decide))
          exact X.roundN (p.length - (j + 1 + 1)) (by omega) ⟨j + 1, M + 1, M + 2, by exact ev_, by exact ev_, by exact ev_, by exact ev_, a7', gh, F2, by omega, T2, by omega, rfl⟩
        · by_cases hj0 : j = 0
          · (repeat' (first | (apply Ab.K.ev; exact ev_) | (apply Ab.K.aops; first | (apply Xg.s; constructor) | (apply Ab.S.guardU; (case hd => rfl); (case hb => (exact ev_; done))) | apply Ab.S.guardG) | (apply Ab.K.aop; first | (apply Ab.O.build1 (M); (case hx => exact ev_); (case hv => exact ⟨rfl, rfl⟩); (case hz => exact ⟨rfl, rfl⟩); (case hid => exact free_)) | (apply Og.s; constructor)) | (apply Ab.K.gk; first | (apply Xg.s; constructor) | (apply Ab.gY; case hw => assumption) | (apply Ab.gNT; case hw => assumption) | (apply Ab.gNF; case hw => assumption) | ((first | apply Ab.gD | apply Ab.gDN); all_goals (intro _ _; (first | contradiction | (exfalso; omega) | skip)))) | (apply Ab.K.awp; first | (apply Xg.s; constructor)) | (apply Ab.K.at_; exact at_) | (apply Ab.K.acall; first | assumption | fail) | (apply Ab.Rg.mk; omega) | (apply Ab.Lt.mk; first | decide | (simp; done) | (simp; omega) | (rw [ecs_length]; omega)) | (apply Ab.Get.mk; first | rfl | first | (rw [Int.toNat_natCast]; first | exact g0 | exact g1) | (rw [show (((j + 1 : Nat) : Int) - 2).toNat = j - 1 from by omega]; exact gp)) | (apply Ab.Nm.mk; first | exact nrm_) | (apply Xg.s; constructor) | (apply Ab.asm; assumption) | rfl | infer_instance | decide))
            (apply Ab.O.appendL (M + 1); (case hx => exact ev_); (case hL => first | exact LAt.nil | exact LAt.blk (by exact at_) (by first | rfl | exact hcl | (rw [Nat.mul_one]; exact hcl) | simp [ints_length])); (case hy => exact ev_); (case hs => first | exact Src.sl (by exact at_) (by decide) (by decide) rfl | exact srcAll (by exact at_) (by first | rfl | exact hcl | (rw [Nat.mul_one]; exact hcl) | simp [ints_length])); (case hk => rfl); (case hm => decide); (case hl => first | rfl | first | rfl | exact hcl | (rw [Nat.mul_one]; exact hcl) | simp [ints_length]); (case hz => decide); (case hb => omega); (case hfree => exact free_))
            intro s3 g
            have out : ∀ k, k < M → q ≠ k → s3 k = s2 k := fun k hk hne => by rw [g.off _ (fun e => hne (Option.some.inj e)) (by omega), AHeap.set_other _ _ (by omega)]
            have T2 := g.topN T.new (fun q' e => by have := Option.some.inj e; omega)
            have F2 := g.fr (Fr.new (hT.free (by omega)) F) (fun q' e => .inl (hT.none (by have := Option.some.inj e; omega)))
            have a7' : At s3 N (.cells true 3 (ecs R)) := At.var (by rw [out _ hNM (by omega)]; exact a7.eq)
            have gh := g.hit
            rw [← ints_take hnx] at gh
            (repeat' (first | (apply Ab.K.ev; exact ev_) | (apply Ab.K.aops; first | (apply Xg.s; constructor) | (apply Ab.S.guardU; (case hd => rfl); (case hb => (exact ev_; done))) | apply Ab.S.guardG) | (apply Ab.K.aop; first | (apply Ab.O.build1 (M); (case hx => exact ev_); (case hv => exact ⟨rfl, rfl⟩); (case hz => exact ⟨rfl, rfl⟩); (case hid => exact free_)) | (apply Og.s; constructor)) | (apply Ab.K.gk; first | (apply Xg.s; constructor) | (apply Ab.gY; case hw => assumption) | (apply Ab.gNT; case hw => assumption) | (apply Ab.gNF; case hw => assumption) | ((first | apply Ab.gD | apply Ab.gDN); all_goals (intro _ _; (first | contradiction | (exfalso; omega) | skip)))) | (apply Ab.K.awp; first | (apply Xg.s; constructor)) | (apply Ab.K.at_; exact at_) | (apply Ab.K.acall; first | assumption | fail) | (apply Ab.Rg.mk; omega) | (apply Ab.Lt.mk; first | decide | (simp; done) | (simp; omega) | (rw [ecs_length]; omega)) | (apply Ab.Get.mk; first | rfl | first | (rw [Int.toNat_natCast]; first | exact g0 | exact g1) | (rw [show (((j + 1 : Nat) : Int) - 2).toNat = j - 1 from by omega]; exact gp)) | (apply Ab.Nm.mk; first | exact nrm_) | (apply Xg.s; constructor) | (apply Ab.asm; assumption) | rfl | infer_instance | decide))
            exact X.roundN (p.length - (j + 1 + 1)) (by omega) ⟨j + 1, M + 1, M + 2, by exact ev_, by exact ev_, by exact ev_, by exact ev_, a7', gh, F2, by omega, T2, by omega, rfl⟩
          · have gp := hcx (j - 1) z (by omega) hz
            have hzo : e.b ≠ z := fun h => had2.elim hj0 (fun h2 => h2 (by rw [hz, h]))
            (repeat' (first | (apply Ab.K.ev; exact ev_) | (apply Ab.K.aops; first | (apply Xg.s; constructor) | (apply Ab.S.guardU; (case hd => rfl); (case hb => (exact ev_; done))) | apply Ab.S.guardG) | (apply Ab.K.aop; first | (apply Ab.O.build1 (M); (case hx => exact ev_); (case hv => exact ⟨rfl, rfl⟩); (case hz => exact ⟨rfl, rfl⟩); (case hid => exact free_)) | (apply Og.s; constructor)) | (apply Ab.K.gk; first | (apply Xg.s; constructor) | (apply Ab.gY; case hw => assumption) | (apply Ab.gNT; case hw => assumption) | (apply Ab.gNF; case hw => assumption) | ((first | apply Ab.gD | apply Ab.gDN); all_goals (intro _ _; (first | contradiction | (exfalso; omega) | skip)))) | (apply Ab.K.awp; first | (apply Xg.s; constructor)) | (apply Ab.K.at_; exact at_) | (apply Ab.K.acall; first | assumption | fail) | (apply Ab.Rg.mk; omega) | (apply Ab.Lt.mk; first | decide | (simp; done) | (simp; omega) | (rw [ecs_length]; omega)) | (apply Ab.Get.mk; first | rfl | first | (rw [Int.toNat_natCast]; first | exact g0 | exact g1) | (rw [show (((j + 1 : Nat) : Int) - 2).toNat = j - 1 from by omega]; exact gp)) | (apply Ab.Nm.mk; first | exact nrm_) | (apply Xg.s; constructor) | (apply Ab.asm; assumption) | rfl | infer_instance | decide))
            (apply Ab.O.appendL (M + 1); (case hx => exact ev_); (case hL => first | exact LAt.nil | exact LAt.blk (by exact at_) (by first | rfl | exact hcl | (rw [Nat.mul_one]; exact hcl) | simp [ints_length])); (case hy => exact ev_); (case hs => first | exact Src.sl (by exact at_) (by decide) (by decide) rfl | exact srcAll (by exact at_) (by first | rfl | exact hcl | (rw [Nat.mul_one]; exact hcl) | simp [ints_length])); (case hk => rfl); (case hm => decide); (case hl => first | rfl | first | rfl | exact hcl | (rw [Nat.mul_one]; exact hcl) | simp [ints_length]); (case hz => decide); (case hb => omega); (case hfree => exact free_))
            intro s3 g
            have out : ∀ k, k < M → q ≠ k → s3 k = s2 k := fun k hk hne => by rw [g.off _ (fun e => hne (Option.some.inj e)) (by omega), AHeap.set_other _ _ (by omega)]
            have T2 := g.topN T.new (fun q' e => by have := Option.some.inj e; omega)
            have F2 := g.fr (Fr.new (hT.free (by omega)) F) (fun q' e => .inl (hT.none (by have := Option.some.inj e; omega)))
            have a7' : At s3 N (.cells true 3 (ecs R)) := At.var (by rw [out _ hNM (by omega)]; exact a7.eq)
            have gh := g.hit
            rw [← ints_take hnx] at gh
            (repeat' (first | (apply Ab.K.ev; exact ev_) | (apply Ab.K.aops; first | (apply Xg.s; constructor) | (apply Ab.S.guardU; (case hd => rfl); (case hb => (exact ev_; done))) | apply Ab.S.guardG) | (apply Ab.K.aop; first | (apply Ab.O.build1 (M); (case hx => exact ev_); (case hv => exact ⟨rfl, rfl⟩); (case hz => exact ⟨rfl, rfl⟩); (case hid => exact free_)) | (apply Og.s; constructor)) | (apply Ab.K.gk; first | (apply Xg.s; constructor) | (apply Ab.gY; case hw => assumption) | (apply Ab.gNT; case hw => assumption) | (apply Ab.gNF; case hw => assumption) | ((first | apply Ab.gD | apply Ab.gDN); all_goals (intro _ _; (first | contradiction | (exfalso; omega) | skip)))) | (apply Ab.K.awp; first | (apply Xg.s; constructor)) | (apply Ab.K.at_; exact at_) | (apply Ab.K.acall; first | assumption | fail) | (apply Ab.Rg.mk; omega) | (apply Ab.Lt.mk; first | decide | (simp; done) | (simp; omega) | (rw [ecs_length]; omega)) | (apply Ab.Get.mk; first | rfl | first | (rw [Int.toNat_natCast]; first | exact g0 | exact g1) | (rw [show (((j + 1 : Nat) : Int) - 2).toNat = j - 1 from by omega]; exact gp)) | (apply Ab.Nm.mk; first | exact nrm_) | (apply Xg.s; constructor) | (apply Ab.asm; assumption) | rfl | infer_instance | decide))
            exact X.roundN (p.length - (j + 1 + 1)) (by omega) ⟨j + 1, M + 1, M + 2, by exact ev_, by exact ev_, by exact ev_, by exact ev_, a7', gh, F2, by omega, T2, by omega, rfl⟩
      · omega
    · have hall2 : ∀ k f, k < i + 1 → R[k]? = some f → ¬ adm f p j x := fun k f hk hf => by
        by_cases hki : k = i
        · subst hki; rw [hee] at hf; obtain rfl := Option.some.inj hf; exact had
        · exact hall k f (by omega) hf
      have had' : 0 < oth e x → j ≠ 0 ∧ p[j - 1]? = some (oth e x) := fun h => by
        by_cases hj0 : j = 0
        · exact absurd ⟨h, .inl hj0⟩ had
        · refine ⟨hj0, ?_⟩
          by_cases hh : p[j - 1]? = some (oth e x)
          · exact hh
          · exact absurd ⟨h, .inr hh⟩ had
      rcases hsh with ⟨s1, s2', s3'⟩ | ⟨s1, s2', s3'⟩ | ⟨s1, s2', s3'⟩
      · rw [s3'] at had'
        obtain ⟨hj0, hz⟩ := had' (by omega)
        have gp := hcx (j - 1) _ (by omega) hz
        (repeat' (first | (apply Ab.K.ev; exact ev_) | (apply Ab.K.aops; first | (apply Xg.s; constructor) | (apply Ab.S.guardU; (case hd => rfl); (case hb => (exact ev_; done))) | apply Ab.S.guardG) | (apply Ab.K.aop; first | (apply Ab.O.build1 (M); (case hx => exact ev_); (case hv => exact ⟨rfl, rfl⟩); (case hz => exact ⟨rfl, rfl⟩); (case hid => exact free_)) | (apply Og.s; constructor)) | (apply Ab.K.gk; first | (apply Xg.s; constructor) | (apply Ab.gY; case hw => assumption) | (apply Ab.gNT; case hw => assumption) | (apply Ab.gNF; case hw => assumption) | ((first | apply Ab.gD | apply Ab.gDN); all_goals (intro _ _; (first | contradiction | (exfalso; omega) | skip)))) | (apply Ab.K.awp; first | (apply Xg.s; constructor)) | (apply Ab.K.at_; exact at_) | (apply Ab.K.acall; first | assumption | fail) | (apply Ab.Rg.mk; omega) | (apply Ab.Lt.mk; first | decide | (simp; done) | (simp; omega) | (rw [ecs_length]; omega)) | (apply Ab.Get.mk; first | rfl | first | (rw [Int.toNat_natCast]; first | exact g0 | exact g1) | (rw [show (((j + 1 : Nat) : Int) - 2).toNat = j - 1 from by omega]; exact gp)) | (apply Ab.Nm.mk; first | exact nrm_) | (apply Xg.s; constructor) | (apply Ab.asm; assumption) | rfl | infer_instance | decide))
        exact X.roundN (R.length - (i + 1)) (by omega) ⟨i + 1, by exact ev_, by exact ev_, by exact ev_, by exact ev_, by exact ev_, by exact ev_, rfl, by omega, hall2, rfl⟩
      · rw [s3'] at had'
        obtain ⟨hj0, hz⟩ := had' (by omega)
        have gp := hcx (j - 1) _ (by omega) hz
        (repeat' (first | (apply Ab.K.ev; exact ev_) | (apply Ab.K.aops; first | (apply Xg.s; constructor) | (apply Ab.S.guardU; (case hd => rfl); (case hb => (exact ev_; done))) | apply Ab.S.guardG) | (apply Ab.K.aop; first | (apply Ab.O.build1 (M); (case hx => exact ev_); (case hv => exact ⟨rfl, rfl⟩); (case hz => exact ⟨rfl, rfl⟩); (case hid => exact free_)) | (apply Og.s; constructor)) | (apply Ab.K.gk; first | (apply Xg.s; constructor) | (apply Ab.gY; case hw => assumption) | (apply Ab.gNT; case hw => assumption) | (apply Ab.gNF; case hw => assumption) | ((first | apply Ab.gD | apply Ab.gDN); all_goals (intro _ _; (first | contradiction | (exfalso; omega) | skip)))) | (apply Ab.K.awp; first | (apply Xg.s; constructor)) | (apply Ab.K.at_; exact at_) | (apply Ab.K.acall; first | assumption | fail) | (apply Ab.Rg.mk; omega) | (apply Ab.Lt.mk; first | decide | (simp; done) | (simp; omega) | (rw [ecs_length]; omega)) | (apply Ab.Get.mk; first | rfl | first | (rw [Int.toNat_natCast]; first | exact g0 | exact g1) | (rw [show (((j + 1 : Nat) : Int) - 2).toNat = j - 1 from by omega]; exact gp)) | (apply Ab.Nm.mk; first | exact nrm_) | (apply Xg.s; constructor) | (apply Ab.asm; assumption) | rfl | infer_instance | decide))
        exact X.roundN (R.length - (i + 1)) (by omega) ⟨i + 1, by exact ev_, by exact ev_, by exact ev_, by exact ev_, by exact ev_, by exact ev_, rfl, by omega, hall2, rfl⟩
      · (repeat' (first | (apply Ab.K.ev; exact ev_) | (apply Ab.K.aops; first | (apply Xg.s; constructor) | (apply Ab.S.guardU; (case hd => rfl); (case hb => (exact ev_; done))) | apply Ab.S.guardG) | (apply Ab.K.aop; first | (apply Ab.O.build1 (M); (case hx => exact ev_); (case hv => exact ⟨rfl, rfl⟩); (case hz => exact ⟨rfl, rfl⟩); (case hid => exact free_)) | (apply Og.s; constructor)) | (apply Ab.K.gk; first | (apply Xg.s; constructor) | (apply Ab.gY; case hw => assumption) | (apply Ab.gNT; case hw => assumption) | (apply Ab.gNF; case hw => assumption) | ((first | apply Ab.gD | apply Ab.gDN); all_goals (intro _ _; (first | contradiction | (exfalso; omega) | skip)))) | (apply Ab.K.awp; first | (apply Xg.s; constructor)) | (apply Ab.K.at_; exact at_) | (apply Ab.K.acall; first | assumption | fail) | (apply Ab.Rg.mk; omega) | (apply Ab.Lt.mk; first | decide | (simp; done) | (simp; omega) | (rw [ecs_length]; omega)) | (apply Ab.Get.mk; first | rfl | first | (rw [Int.toNat_natCast]; first | exact g0 | exact g1) | (rw [show (((j + 1 : Nat) : Int) - 2).toNat = j - 1 from by omega]; exact gp)) | (apply Ab.Nm.mk; first | exact nrm_) | (apply Xg.s; constructor) | (apply Ab.asm; assumption) | rfl | infer_instance | decide))
        exact X.roundN (R.length - (i + 1)) (by omega) ⟨i + 1, by exact ev_, by exact ev_, by exact ev_, by exact ev_, by exact ev_, by exact ev_, rfl, by omega, hall2, rfl⟩
end Go.Proofs.Ytdbnpghckgmaoaa
