/- trees: the way between any nodes, the next one, the heaviest edge. -/
import Derived.Test.YtnbgeodignljfaaUF
import Derived.Test.YtnbgeodignljfaaTH
import Derived.Test.YtnbgeodignljfaaTR
namespace Go.Proofs.Ytnbgeodignljfaa
set_option linter.unusedVariables false
set_option linter.unusedSimpArgs false
set_option linter.unusedSectionVars false
open Go.RowKit Ab TP
/-- A copy by append to a new, empty slice. -/
theorem copyE {tm : Env} {s : AHeap} {K : Value → AHeap → Prop} {d : Option Tmp} {t : TypeId} {p : String} {af : Array Edge} {gd : Option (Nat × Bool)} {x y : Operand} {v : Value} {on : Option Nat} {l : List E} {N : Nat} (hT : Top (N + 1) s) (hN : At s N (.cells true 3 [])) (h : EA s v on l) (hn : l.length ≤ 512)
    (hx : Ev tm x (.slice (some ⟨N, 0, none⟩) 0 0)) (hy : Ev tm y v) (hk : ∀ q s', At s' q (.cells true 3 (ecs l)) → N ≤ q → Top (N + 2) s' → (∀ i, i ≠ N → i ≠ N + 1 → s' i = s i) → K (.slice (some ⟨q, 0, none⟩) l.length l.length) s') :
    AOp Try.prog ⟨d, .call ⟨.builtin .append, #[x, y], #[22, 22]⟩, t, p, af, gd⟩ tm s K := by
  by_cases hl : l.length = 0
  · obtain rfl := List.length_eq_zero_iff.1 hl
    have hk0 := hk N s hN (Nat.le_refl _) (hT.mono (by omega)) (fun _ _ _ => rfl)
    cases h with
    | nil => exact O.appendNone hx hy Src.nil rfl hk0
    | blk _ _ _ => exact O.appendNone hx hy Src.none rfl hk0
  · obtain ⟨A, c, rfl⟩ := h.isl
    rcases h.addr with rfl | ⟨q, rfl⟩
    · exact absurd h.nil_len.1 hl
    obtain ⟨rw1, cs, hA, _, hcs, htk⟩ := h.cells
    have hqN := hT.lt hA
    refine O.appendL (N + 1) (es := 3) (n := 0) (m := l.length) (xs := []) (ys := ecs l) (on := some N) hx (LAt.blk hN rfl) hy (Src.sl hA hl (by omega) (by rw [List.drop_zero]; exact htk)) rfl hl (ecs_length l) (by decide) (by omega) (hT.free (Nat.le_refl _)) fun s' g => ?_
    have := hk (N + 1) s' (by have := g.hit; rwa [List.nil_append] at this) (by omega) (g.topN hT fun q e => by have := Option.some.inj e; omega) (fun i h1 h2 => g.off i (fun e => h1 (Option.some.inj e).symm) h2)
    rwa [Nat.zero_add]
theorem okB_wOk {l : List E} {a b : Int} : okB l a b = wOk l a b := by rw [Bool.eq_iff_iff, okB_iff, wOk_iff]
attribute [local irreducible] AOps AOpsD AOp AWp put nargs AHeap.set At Free ACall ACallE thenQ blockQ roundQ RetQ RetE Src bsn Gr
theorem eqz {x y : Operand} : ABin Try.prog .eql 32 x y (.agg (ec ⟨0, 0, 0⟩).toArray) (.agg #[.int .i64 0, .int .i64 0, .int .i64 0]) (.bool true) := eq32 (e := ⟨0, 0, 0⟩) (f := ⟨0, 0, 0⟩)

set_option maxHeartbeats 8000000 in
theorem law7 {s : AHeap} {A : Option Addr} {n c : Nat} {on : Option Nat} {l : List E} {a b : Int} (h : EA s (.slice A n c) on l) :
    ACall Try.prog 7 [.slice A n c, .int .i64 a, .int .i64 b] s (.bool true) s := by
  have hnl : n = l.length := by obtain ⟨_, _, e⟩ := h.isl; injection e
  refine ACall.make Try.func7 rfl (by kernel_rfl) (by decide) rfl (fun N hN => ?_)
  have hT : Top N s := hN
  have aw : ∀ s : AHeap, ACall Try.prog 10 [] s (.bool true) s := fun s => awake10
  by_cases h60 : (n : Int) > 60
  · 
    (repeat' (first | (apply Ab.K.ev; exact ev_) | (apply Ab.K.aops; first | (apply Xg.s; constructor) | (apply Ab.S.guardU; (case hd => rfl); (case hb => (exact ev_; done))) | apply Ab.S.guardG) | (apply Ab.K.aop; first | (apply Og.s; constructor)) | (apply Ab.K.gk; first | (apply Xg.s; constructor) | (apply Ab.gY; case hw => assumption) | (apply Ab.gNT; case hw => assumption) | (apply Ab.gNF; case hw => assumption) | ((first | apply Ab.gD | apply Ab.gDN); all_goals (intro _ _; (first | contradiction | (exfalso; omega) | skip)))) | (apply Ab.K.awp; first | (apply Xg.s; constructor)) | (apply Ab.K.at_; exact at_) | (apply Ab.K.acall; first | assumption | exact aw _) | (apply Ab.Rg.mk; omega) | (apply Ab.Lt.mk; first | decide | (simp; done) | (simp; omega) | fail) | (apply Ab.Get.mk; first | rfl | fail) | (apply Ab.Nm.mk; first | exact nrm_) | (apply Xg.s; constructor) | (apply Ab.asm; assumption) | rfl | infer_instance | decide))
    all_goals ((first | apply RetQ.ret | apply RetQ.normal); (case he => exact evr_); (case hg => rfl))
    all_goals first | rfl | (apply Keeps.fr; (case h => exact fr_); (case hv => exact plR.nm rfl))
  have hn : n ≤ 512 := by omega
  have F0 : Fr (s.set N (.cells true 3 [])) s [] := Fr.new (hT.free (Nat.le_refl _)) (Fr.refl _ _)
  (repeat' (first | (apply Ab.K.ev; exact ev_) | (apply Ab.K.aops; first | (apply Xg.s; constructor) | (apply Ab.S.guardU; (case hd => rfl); (case hb => (exact ev_; done))) | apply Ab.S.guardG) | (apply Ab.K.aop; first | (first | (apply Ab.O.build0 N (te := ⟨.struct [(0, 3), (1, 3), (2, 3)], 3, 24, .agg #[.int .i64 0, .int .i64 0, .int .i64 0]⟩); (case hz => exact ⟨rfl, rfl⟩); (case hid => exact hT.free (Nat.le_refl _))) | (apply copyE (N := N) hT.new At.hit (h.fr F0) (by omega); (case hx => exact ev_); (case hy => exact ev_))) | (apply Og.s; constructor)) | (apply Ab.K.gk; first | (apply Xg.s; constructor) | (apply Ab.gY; case hw => assumption) | (apply Ab.gNT; case hw => assumption) | (apply Ab.gNF; case hw => assumption) | ((first | apply Ab.gD | apply Ab.gDN); all_goals (intro _ _; (first | contradiction | (exfalso; omega) | skip)))) | (apply Ab.K.awp; first | (apply Xg.s; constructor)) | (apply Ab.K.at_; exact at_) | (apply Ab.K.acall; first | assumption | exact aw _) | (apply Ab.Rg.mk; omega) | (apply Ab.Lt.mk; first | decide | (simp; done) | (simp; omega) | fail) | (apply Ab.Get.mk; first | rfl | fail) | (apply Ab.Nm.mk; first | exact nrm_) | (apply Xg.s; constructor) | (apply Ab.asm; assumption) | rfl | infer_instance | decide))
  intro q s1 aq hqN T1 off
  rw [← hnl]
  have F1 : Fr s1 s [] := fun i _ c hc => by
    have hi := hT.lt (At.var hc)
    rw [off i (by omega) (by omega), AHeap.set_other _ _ (by omega)]; exact hc
  have hE1 := h.fr F1
  have hC1 : EA s1 (.slice (some ⟨q, 0, none⟩) n n) (some q) l := by rw [hnl]; exact EA.own aq
  have c8 : ∀ s3 : AHeap, Fr s3 s [] → ACall Try.prog 8 [.slice A n c, .int .i64 a, .int .i64 b] s3 (.bool (wOk l a b)) s3 := fun s3 F3 => by
    have := may8 (a := a) (b := b) (h.fr F3) hn; rwa [okB_wOk] at this
  clear off F0
  cases hok : wOk l a b
  · rw [hok] at c8
    have c11 := way11_no hC1 hn hok
    have c12 := next12_err (by decide) (way11_no hE1 hn hok)
    have c21 := heaviest21_err (s := s1) (by decide) (fun s3 F3 => way11_no (hE1.fr F3) hn hok)
    have c8b := c8 ((s1.set (N + 2) (.cells true 1 (ec ⟨0, 0, 0⟩))).set (N + 2) (.cells true 1 (ec ⟨0, 0, 0⟩))) (by rw [AHeap.set_set]; exact Fr.new (hT.free (by omega)) F1)


    (repeat' (first | (apply Ab.K.ev; exact ev_) | (apply Ab.K.aops; first | (apply Xg.s; constructor) | (apply Ab.S.guardU; (case hd => rfl); (case hb => (exact ev_; done))) | apply Ab.S.guardG) | (apply Ab.K.aop; first | (first | (apply Ab.O.allocA (l := ec ⟨0, 0, 0⟩) (N + 2); (case hid => exact T1.free (Nat.le_refl _)); (case hp => rfl)) | (apply Ab.O.storeAll; (case hz => rfl); (case hx => exact ev_); (case hy => exact ev_); (case hs => exact at_); (case hl => rfl); (case hc => rfl)) | (apply Ab.O.bin; (case hx => exact ev_); (case hy => exact ev_); (case hv => exact eqz))) | (apply Og.s; constructor)) | (apply Ab.K.gk; first | (apply Xg.s; constructor) | (apply Ab.gY; case hw => assumption) | (apply Ab.gNT; case hw => assumption) | (apply Ab.gNF; case hw => assumption) | ((first | apply Ab.gD | apply Ab.gDN); all_goals (intro _ _; (first | contradiction | (exfalso; omega) | skip)))) | (apply Ab.K.awp; first | (apply Xg.s; constructor)) | (apply Ab.K.at_; exact at_) | (apply Ab.K.acall; first | assumption | first | exact c11 | exact c12 | exact c21 | exact c8b | exact aw _) | (apply Ab.Rg.mk; omega) | (apply Ab.Lt.mk; first | decide | (simp; done) | (simp; omega) | fail) | (apply Ab.Get.mk; first | rfl | fail) | (apply Ab.Nm.mk; first | exact (show ((ec ⟨0, 0, 0⟩).drop 0).take 3 = ec ⟨0, 0, 0⟩ from rfl) | exact nrm_) | (apply Xg.s; constructor) | (apply Ab.asm; assumption) | rfl | infer_instance | decide))
    all_goals ((first | apply RetQ.ret | apply RetQ.normal); (case he => exact evr_); (case hg => rfl))
    all_goals first | rfl | (apply Keeps.fr; (case h => exact fr_); (case hv => exact plR.nm rfl))
  obtain ⟨hg, hf, ha, hb⟩ := wOk_iff.1 hok
  have hc := hf.cut hg.2.nodup
  rw [hok] at c8
  have c9 : ∀ s3 : AHeap, Fr s3 s [] → ACall Try.prog 9 [.slice A n c, .int .i64 a, .int .i64 b] s3 (.bool (lkB l a b)) s3 := fun s3 F3 => linked9 (h.fr F3) (Good.node hg) (by omega)
  cases hlk : lkB l a b
  · rw [hlk] at c9
    have hnc : ¬ Conn l a b := fun hcn => by rw [lkB_iff.2 ⟨ha, hb, hcn⟩] at hlk; cases hlk
    have c11 := way11_none hC1 hn hok hnc
    have c12 := next12_err (by decide) (way11_none hE1 hn hok hnc)
    have c21 := heaviest21_err (s := s1) (by decide) (fun s3 F3 => way11_none (hE1.fr F3) hn hok hnc)
    have FX : Fr ((s1.set (N + 2) (.cells true 1 (ec ⟨0, 0, 0⟩))).set (N + 2) (.cells true 1 (ec ⟨0, 0, 0⟩))) s [] := by rw [AHeap.set_set]; exact Fr.new (hT.free (by omega)) F1
    have c8b := c8 _ FX
    have c9b := c9 _ FX
    (repeat' (first | (apply Ab.K.ev; exact ev_) | (apply Ab.K.aops; first | (apply Xg.s; constructor) | (apply Ab.S.guardU; (case hd => rfl); (case hb => (exact ev_; done))) | apply Ab.S.guardG) | (apply Ab.K.aop; first | (first | (apply Ab.O.allocA (l := ec ⟨0, 0, 0⟩) (N + 2); (case hid => exact T1.free (Nat.le_refl _)); (case hp => rfl)) | (apply Ab.O.storeAll; (case hz => rfl); (case hx => exact ev_); (case hy => exact ev_); (case hs => exact at_); (case hl => rfl); (case hc => rfl)) | (apply Ab.O.bin; (case hx => exact ev_); (case hy => exact ev_); (case hv => exact eqz))) | (apply Og.s; constructor)) | (apply Ab.K.gk; first | (apply Xg.s; constructor) | (apply Ab.gY; case hw => assumption) | (apply Ab.gNT; case hw => assumption) | (apply Ab.gNF; case hw => assumption) | ((first | apply Ab.gD | apply Ab.gDN); all_goals (intro _ _; (first | contradiction | (exfalso; omega) | skip)))) | (apply Ab.K.awp; first | (apply Xg.s; constructor)) | (apply Ab.K.at_; exact at_) | (apply Ab.K.acall; first | assumption | first | exact c11 | exact c12 | exact c21 | exact c8b | exact c9b | exact aw _) | (apply Ab.Rg.mk; omega) | (apply Ab.Lt.mk; first | decide | (simp; done) | (simp; omega) | fail) | (apply Ab.Get.mk; first | rfl | fail) | (apply Ab.Nm.mk; first | exact (show ((ec ⟨0, 0, 0⟩).drop 0).take 3 = ec ⟨0, 0, 0⟩ from rfl) | exact nrm_) | (apply Xg.s; constructor) | (apply Ab.asm; assumption) | rfl | infer_instance | decide))
    all_goals ((first | apply RetQ.ret | apply RetQ.normal); (case he => exact evr_); (case hg => rfl))
    all_goals first | rfl | (apply Keeps.fr; (case h => exact fr_); (case hv => exact plR.nm rfl))
  rw [hlk] at c9
  obtain ⟨_, _, hcon⟩ := lkB_iff.1 hlk
  obtain ⟨p, hw⟩ := Way.ex hcon
  have hp64 := hw.short (Good.node hg) ha
  have hp1 : 1 ≤ p.length := by obtain ⟨t, ht⟩ := hw.head; rw [ht]; simp
  obtain ⟨s2, hs2⟩ : ∃ s2, s2 = s1.set (N + 2) (.cells true 1 (ints p)) := ⟨_, rfl⟩
  have F2 : Fr s2 s [] := by rw [hs2]; exact Fr.new (hT.free (by omega)) F1
  have T2 : Top (N + 3) s2 := by rw [hs2]; exact T1.new
  have hE2 := h.fr F2
  have c11 := way11_yes hC1 hn hok hw (T1.none (Nat.le_refl _))
  obtain ⟨y, hy⟩ : ∃ y, (p ++ [b])[1]? = some y := ⟨_, List.getElem?_eq_getElem (by simp; omega)⟩
  have c12 := next12_yes hp64 hp1 hy (fun o ho => way11_yes hE2 hn hok hw ho)
  have step : ∀ (g : E) (x : Int), ACall Try.prog 21 [.slice A n c, .int .i64 a, .int .i64 b] s2 (.tuple #[.agg (ec g).toArray, .int .i64 x]) s2 → ∃ s4 : AHeap, s4 = ((s2.set (N + 3) (.cells true 1 (ec ⟨0, 0, 0⟩))).set (N + 3) (.cells true 1 (ec g))) ∧ Fr s4 s [] ∧ Top (N + 4) s4 ∧ At s4 (N + 2) (.cells true 1 (ints p)) ∧ At s4 (N + 3) (.cells true 1 (ec g)) := fun g x _ => by
    refine ⟨_, rfl, ?_, ?_, ?_, At.hit⟩
    · rw [AHeap.set_set]; exact Fr.new (hT.free (by omega)) F2
    · rw [AHeap.set_set]; exact T2.new
    · rw [hs2]; exact at_
  by_cases hab : a = b
  · subst hab
    have hpa : p = [a] := (Way.one a).uniq hc hw
    have hya : y = a := by rw [hpa] at hy; exact (Option.some.inj hy).symm
    have c21 := heaviest21_one hE2 hn hok
    obtain ⟨s4, hs4, F4, T4, a4, a4g⟩ := step _ _ c21
    have c8b := c8 _ F4
    have c9b := c9 _ F4
    have c23 := way23 (h.fr F4) hg hc hw ha hb hn (T4.none (Nat.le_refl _))
    have w1 : NA (s4.set (N + 4) (.cells true 1 (ints p))) _ _ p := NA.own (At.miss (by omega) a4)
    have w2 : NA (s4.set (N + 4) (.cells true 1 (ints p))) _ _ p := NA.own At.hit
    have c17 := ints17 w1 w2 (by omega) (by omega)
    rw [decide_eq_true rfl] at c17
    rw [hs4, hs2] at c8b c9b c23 c17
    rw [hs2] at c12 c21


    (repeat' (first | (apply Ab.K.ev; exact ev_) | (apply Ab.K.aops; first | (apply Xg.s; constructor) | (apply Ab.S.guardU; (case hd => rfl); (case hb => (exact ev_; done))) | apply Ab.S.guardG) | (apply Ab.K.aop; first | (first | (apply Ab.O.allocA (l := ec ⟨0, 0, 0⟩) (N + 3); (case hid => (rw [← hs2]; exact T2.free (Nat.le_refl _))); (case hp => rfl)) | (apply Ab.O.storeAll; (case hz => rfl); (case hx => exact ev_); (case hy => exact ev_); (case hs => exact at_); (case hl => rfl); (case hc => rfl)) | (apply Ab.O.bin; (case hx => exact ev_); (case hy => exact ev_); (case hv => exact eqz))) | (apply Og.s; constructor)) | (apply Ab.K.gk; first | (apply Xg.s; constructor) | (apply Ab.gY; case hw => assumption) | (apply Ab.gNT; case hw => assumption) | (apply Ab.gNF; case hw => assumption) | ((first | apply Ab.gD | apply Ab.gDN); all_goals (intro _ _; (first | contradiction | (exfalso; omega) | skip)))) | (apply Ab.K.awp; first | (apply Xg.s; constructor)) | (apply Ab.K.at_; exact at_) | (apply Ab.K.acall; first | assumption | first | exact c11 | exact c12 | exact c21 | exact c8b | exact c9b | exact c23 | exact c17 | exact aw _) | (apply Ab.Rg.mk; omega) | (apply Ab.Lt.mk; first | decide | (simp; done) | (simp; omega) | fail) | (apply Ab.Get.mk; first | rfl | fail) | (apply Ab.Nm.mk; first | exact (show ((ec ⟨0, 0, 0⟩).drop 0).take 3 = ec ⟨0, 0, 0⟩ from rfl) | exact nrm_) | (apply Xg.s; constructor) | (apply Ab.asm; assumption) | rfl | infer_instance | decide))
    all_goals ((first | apply RetQ.ret | apply RetQ.normal); (case he => exact evr_); (case hg => rfl))
    all_goals first | rfl | (rw [← hs2, ← hs4]; exact Keeps.fr (Fr.new (hT.free (by omega)) F4) (plR.nm rfl))
  · obtain ⟨g, hgt⟩ := onP_top hw hab
    have hgo : Top1 (onL l a b) g := hgt.congr fun e => by
      rw [onL_mem ha hb, onP_mem]
      exact and_congr_right fun he => on_iff hc hw he
    have c21 := heaviest21_yes hE2 hn hok hw hab hgt
    obtain ⟨s4, hs4, F4, T4, a4, a4g⟩ := step _ _ c21
    have c8b := c8 _ F4
    have c9b := c9 _ F4
    have c23 := way23 (h.fr F4) hg hc hw ha hb hn (T4.none (Nat.le_refl _))
    obtain ⟨s5, hs5⟩ : ∃ s5, s5 = s4.set (N + 4) (.cells true 1 (ints p)) := ⟨_, rfl⟩
    have F5 : Fr s5 s [] := by rw [hs5]; exact Fr.new (hT.free (by omega)) F4
    have T5 : Top (N + 5) s5 := by rw [hs5]; exact T4.new
    have w1 : NA s5 (.slice (some ⟨N + 2, 0, none⟩) p.length p.length) (some (N + 2)) p := by rw [hs5]; exact NA.own (At.miss (by omega) a4)
    have w2 : NA s5 (.slice (some ⟨N + 4, 0, none⟩) p.length p.length) (some (N + 4)) p := by rw [hs5]; exact NA.own At.hit
    have c17 := ints17 w1 w2 (by omega) (by omega)
    rw [decide_eq_true rfl] at c17
    have hp2 : 1 < p.length := by
      cases hw with
      | one => exact absurd rfl hab
      | cons _ _ r => obtain ⟨t, ht⟩ := r.head; rw [ht]; simp
    rw [List.getElem?_append_left hp2] at hy
    have gy := ints_get hy
    have c25 := on25 (a := a) (b := b) (h.fr F5) (Good.node hg) hn (T5.none (Nat.le_refl _))
    have hol : (onL l a b).length ≤ 512 := Nat.le_trans (List.length_filter_le _ _) (by omega)
    have c24 := heaviest24 (EA.own (s := s5.set (N + 5) (.cells true 3 (ecs (onL l a b)))) At.hit) hgo hol
    have eqg : ∀ x y, ABin Try.prog .eql 32 x y (.agg (ec g).toArray) (.agg (ec g).toArray) (.bool true) := fun x y => by have := eq32 (x := x) (y := y) (e := g) (f := g); rwa [decide_eq_true rfl] at this
    rw [hs5, hs4, hs2] at c17 c25 c24
    rw [hs4, hs2] at c8b c9b c23
    rw [hs2] at c12 c21






    (repeat' (first | (apply Ab.K.ev; exact ev_) | (apply Ab.K.aops; first | (apply Xg.s; constructor) | (apply Ab.S.guardU; (case hd => rfl); (case hb => (exact ev_; done))) | apply Ab.S.guardG) | (apply Ab.K.aop; first | (first | (apply Ab.O.allocA (l := ec ⟨0, 0, 0⟩) (N + 3); (case hid => (rw [← hs2]; exact T2.free (Nat.le_refl _))); (case hp => rfl)) | (apply Ab.O.storeAll; (case hz => rfl); (case hx => exact ev_); (case hy => exact ev_); (case hs => exact at_); (case hl => rfl); (case hc => rfl)) | (apply Ab.O.bin; (case hx => exact ev_); (case hy => exact ev_); (case hv => exact eqg _ _))) | (apply Og.s; constructor)) | (apply Ab.K.gk; first | (apply Xg.s; constructor) | (apply Ab.gY; case hw => assumption) | (apply Ab.gNT; case hw => assumption) | (apply Ab.gNF; case hw => assumption) | ((first | apply Ab.gD | apply Ab.gDN); all_goals (intro _ _; (first | contradiction | (exfalso; omega) | skip)))) | (apply Ab.K.aopsD; first | (apply Ab.D.q0t; (case hw => rfl); (case hot => rfl)) | (apply Ab.D.w1t; (case hw => rfl); (case hot => rfl)) | (apply Ab.D.q0; (case hw => rfl); intro _ _) | (apply Ab.D.w1n; (case hw => rfl); intro _ _) | (apply Ab.D.w2n; (case hw => rfl); intro _ _) | (apply Xg.s; constructor) | (apply Ab.D.guardU; (case hd => rfl); (case hb => (exact ev_; done))) | apply Ab.D.guardG) | exact ⟨rfl, rfl⟩ | (apply Ab.K.awp; first | (apply AWp.draw (id := 15) [[], [], [1], [1, 2], [0, 1, 2, 3], [0, 1, 2, 3, 4], [0, 1, 2, 3, 4, 5], [0, 1, 2, 3, 4, 5, 6], [0, 1, 2, 3, 4, 5, 6, 7], [0, 1, 2, 3, 4, 5, 6, 7, 8], [0, 1, 2, 3, 4, 5, 6, 7, 8, 9], [0, 1, 2, 3, 4, 5, 6, 7, 8, 9], [0, 1, 2, 3, 4, 5, 6, 7, 8, 9], [0, 1, 2, 3, 4, 5, 6, 7, 8, 9], [0, 1, 2, 3, 4, 5, 6, 7, 8, 9, 11, 12, 13], [0, 1, 2, 3, 4, 5, 6, 7, 8, 9, 11, 12, 13, 14], [0, 1, 2, 3, 4, 5, 6, 7, 8, 9, 10, 11, 12, 13, 14, 15], [0, 1, 2, 3, 4, 5, 6, 7, 8, 9, 10, 11, 12, 13, 14, 15, 16], [0, 1, 2, 3, 4, 5, 6, 7, 8, 9, 10, 11, 12, 13, 14, 15, 16, 17], [0, 1, 2, 3, 4, 5, 6, 7, 8, 9, 10, 11, 12, 13, 14, 15, 16, 17, 18], [0, 1, 2, 3, 4, 5, 6, 7, 8, 9, 10, 11, 12, 13, 14, 15, 16, 17, 18, 19], [0, 1, 2, 3, 4, 5, 6, 7, 8, 9, 10, 11, 12, 13, 14, 15, 16, 17, 18, 19, 20]] [(14, [N + 5])] (by kernel_rfl) (by kernel_rfl) (by simp [apartW, unordB, cC] <;> omega)) | (apply Xg.s; constructor)) | (apply Ab.K.at_; exact at_) | (apply Ab.K.acall; first | assumption | first | exact c11 | exact c12 | exact c21 | exact c8b | exact c9b | exact c23 | exact c17 | exact c25 | exact c24 | exact aw _) | (apply Ab.Rg.mk; omega) | (apply Ab.Lt.mk; first | decide | (simp; done) | (simp; omega) | first | omega | (show (0 + 3 : Nat) < 3 + 1; decide)) | (apply Ab.Get.mk; first | rfl | exact gy) | (apply Ab.Nm.mk; first | exact (show ((ec g).drop 0).take 3 = ec g from rfl) | exact nrm_) | (apply Xg.s; constructor) | (apply Ab.asm; assumption) | rfl | infer_instance | decide))
    all_goals ((first | apply RetQ.ret | apply RetQ.normal); (case he => exact evr_); (case hg => rfl))
    all_goals first | rfl | (apply Keeps.fr; (case h => exact fr_); (case hv => exact plR.nm rfl))
end Go.Proofs.Ytnbgeodignljfaa
