/- trees: the theorem of sides. -/
import Derived.Test.YtnbgeodignljfaaUD
import Derived.Test.YtnbgeodignljfaaTR
namespace Go.Proofs.Ytnbgeodignljfaa
set_option linter.unusedVariables false
set_option linter.unusedSimpArgs false
set_option linter.unusedSectionVars false
open Go.RowKit Ab TP
/-- How often each node stands in a list. -/
def cts (L : List Int) : List Int := (List.range 65).map fun (j : Nat) => (L.count (j : Int) : Int)
theorem cts_length {L : List Int} : (cts L).length = 65 := by simp [cts]
theorem cts_get {L : List Int} {x : Int} (hx : TP.Node x) : (ints (cts L))[x.toNat]? = some (.int .i64 (L.count x)) := by
  have h := hx.1
  have h2 := hx.2
  have : x.toNat < 65 := by omega
  simp [ints, cts, this]
  rw [show max x 0 = x from by omega]
theorem cts_set {L : List Int} {x : Int} (hx : TP.Node x) : (ints (cts L)).set x.toNat (.int .i64 ((L.count x : Int) + 1)) = ints (cts (L ++ [x])) := by
  have h := hx.1
  have h2 := hx.2
  apply List.ext_getElem?
  intro j
  rw [List.getElem?_set]
  by_cases hj : x.toNat = j
  · subst hj
    rw [if_pos rfl, if_pos (by rw [ints_length, cts_length]; omega)]
    rw [cts_get hx]
    simp
  · rw [if_neg hj]
    by_cases hjn : j < 65
    · have hne : ¬ x = (j : Int) := by omega
      simp [ints, cts, hjn, List.count_append, List.count_singleton, hne]
    · simp [ints, cts, hjn]
instance : HasTD Try.prog 5 ⟨.int .u8, 1, 1, .int .u8 0⟩ := ⟨by kernel_rfl⟩

instance td35 : HasTD Try.prog 35 ⟨.array 65 3, 65, 520, .agg (ints (cts [])).toArray⟩ := ⟨by kernel_rfl⟩
attribute [local irreducible] AOps AOpsD AOp AWp put nargs AHeap.set At Free ACall ACallE thenQ blockQ roundQ RetQ RetE Src bsn Gr cts

theorem law4 {s : AHeap} {A : Option Addr} {n c : Nat} {on : Option Nat} {l : List E} {x : Int} (h : EA s (.slice A n c) on l) (hx : 0 ≤ x ∧ x ≤ 255) :
    ACall Try.prog 4 [.slice A n c, .int .u8 x] s (.bool true) s := by
  have hnl : n = l.length := by obtain ⟨_, _, e⟩ := h.isl; injection e
  refine ACall.make Try.func4 rfl (by kernel_rfl) (by decide) rfl (fun N hN => ?_)
  have hT : Top N s := hN
  have aw : ∀ s : AHeap, ACall Try.prog 10 [] s (.bool true) s := fun s => awake10
  by_cases h60 : 0 < n ∧ n ≤ 60
  · have c8 := may8 (a := 1) (b := 1) h (by omega)
    have h0n : ¬ ((n : Int) = 0) := by omega
    have h6n : ¬ ((n : Int) > 60) := by omega
    cases hok : okB l 1 1
    · rw [hok] at c8
      (repeat' (first | (apply Ab.K.ev; exact ev_) | (apply Ab.K.aops; first | (apply Xg.s; constructor) | (apply Ab.S.guardU; (case hd => rfl); (case hb => (exact ev_; done))) | apply Ab.S.guardG) | (apply Ab.K.aop; first | (apply Og.s; constructor)) | (apply Ab.K.gk; first | (apply Xg.s; constructor) | (apply Ab.gY; case hw => assumption) | (apply Ab.gNT; case hw => assumption) | (apply Ab.gNF; case hw => assumption) | ((first | apply Ab.gD | apply Ab.gDN); all_goals (intro _ _; (first | contradiction | (exfalso; omega) | skip)))) | (apply Ab.K.awp; first | (apply Xg.s; constructor)) | (apply Ab.K.at_; exact at_) | (apply Ab.K.acall; first | assumption | first | exact c8 | exact aw _) | (apply Ab.Rg.mk; omega) | (apply Ab.Lt.mk; first | decide | (simp; done) | (simp; omega) | fail) | (apply Ab.Get.mk; first | rfl | fail) | (apply Ab.Nm.mk; first | exact nrm_) | (apply Xg.s; constructor) | (apply Ab.asm; assumption) | rfl | infer_instance | decide))
      all_goals ((first | apply RetQ.ret | apply RetQ.normal); (case he => exact evr_); (case hg => rfl))
      all_goals first | rfl | (apply Keeps.fr; (case h => exact fr_); (case hv => exact plR.nm rfl))
    · rw [hok] at c8
      obtain ⟨hg, hf, _, _⟩ := okB_iff.1 hok
      have hc := hf.cut hg.2.nodup
      have hwx : IntKind.i64.wrap x = x := wrap64_small hx.1 (by omega)
      obtain ⟨k, hk⟩ : ∃ k, k = (x.tmod n).toNat := ⟨_, rfl⟩
      have hkn : k < n := by
        have h1 := Int.tmod_lt_of_pos x (show (0 : Int) < n by omega)
        have h2 := Int.tmod_nonneg (n : Int) hx.1
        omega
      have hkx : x.tmod n = (k : Int) := by
        have h2 := Int.tmod_nonneg (n : Int) hx.1
        omega
      have hi' : l[k]? = some (l[k]'(by omega)) := List.getElem?_eq_getElem (by omega)
      obtain ⟨e, hee⟩ : ∃ e, e = l[k]'(by omega) := ⟨_, rfl⟩
      rw [← hee] at hi'
      have hel := List.mem_of_getElem? hi'
      have hem := hg.1 e hel
      obtain ⟨q, rw1, cs, rfl, hon, _, hq, hcs, hE, g0, g1, _⟩ := h.elt hi'
      have hqN := h.lt hT q hon
      obtain ⟨s1, hs1⟩ : ∃ s1, s1 = (s.set N (.cells true 1 (ec ⟨0, 0, 0⟩))).set N (.cells true 1 (ec e)) := ⟨_, rfl⟩
      have T1 : Top (N + 1) s1 := by rw [hs1, AHeap.set_set]; exact hT.new
      have F1 : Fr s1 s [] := by rw [hs1, AHeap.set_set]; exact Fr.new (hT.free (Nat.le_refl _)) (Fr.refl _ _)
      have cA := side13_yes (cut := e) (a := e.a) (o := N + 1) (h.fr F1) (by omega) (sOk_iff.2 ⟨hg, hf, hem.1⟩) hel (T1.none (Nat.le_refl _))
      obtain ⟨La, hLa⟩ : ∃ La, La = side (rm l e) e.a := ⟨_, rfl⟩
      obtain ⟨Lb, hLb⟩ : ∃ Lb, Lb = side (rm l e) e.b := ⟨_, rfl⟩
      obtain ⟨Lc, hLc⟩ : ∃ Lc, Lc = side l e.a := ⟨_, rfl⟩
      rw [← hLa] at cA
      obtain ⟨s2, hs2⟩ : ∃ s2, s2 = s1.set (N + 1) (.cells true 1 (ints La)) := ⟨_, rfl⟩
      have T2 : Top (N + 2) s2 := by rw [hs2]; exact T1.new
      have F2 : Fr s2 s [] := by rw [hs2]; exact Fr.new (hT.free (by omega)) F1
      have cB := side13_yes (cut := e) (a := e.b) (o := N + 2) (h.fr F2) (by omega) (sOk_iff.2 ⟨hg, hf, hem.2.1⟩) hel (T2.none (Nat.le_refl _))
      rw [← hLb] at cB
      obtain ⟨s3, hs3⟩ : ∃ s3, s3 = s2.set (N + 2) (.cells true 1 (ints Lb)) := ⟨_, rfl⟩
      have T3 : Top (N + 3) s3 := by rw [hs3]; exact T2.new
      have F3 : Fr s3 s [] := by rw [hs3]; exact Fr.new (hT.free (by omega)) F2
      have cC := linked14 (a := e.a) (o := N + 3) (h.fr F3) (Good.node hg) (by omega) (T3.none (Nat.le_refl _))
      rw [← hLc] at cC
      have hlen := cut_len hg hc hel
      rw [← hLa, ← hLb, ← hLc] at hlen
      have hl64 : La.length ≤ 64 ∧ Lb.length ≤ 64 := by rw [hLa, hLb]; exact ⟨lkN_len, lkN_len⟩
      rw [hs3, hs2, hs1] at cC
      rw [hs2, hs1] at cB
      rw [hs1] at cA




      (repeat' (first | (apply Ab.K.ev; exact ev_) | (apply Ab.K.aops; first | (apply Xg.s; constructor) | (apply Ab.S.guardU; (case hd => rfl); (case hb => (exact ev_; done))) | apply Ab.S.guardG) | (apply Ab.K.aop; first | (first | (apply Ab.O.convW (hw := hwx); (case hx => exact ev_)) | (apply Ab.O.allocA (l := ec ⟨0, 0, 0⟩) N; (case hid => exact hT.free (Nat.le_refl _)); (case hp => rfl)) | (apply Ab.O.allocA (l := ints (cts [])) (N + 4); (case hid => exact frees_); (case hp => exact ints_pl _)) | (apply Ab.Qz.br; (case hz => exact ints_pl _)) | (apply Ab.O.storeAll; (case hz => rfl); (case hx => exact ev_); (case hy => exact ev_); (case hs => exact at_); (case hl => rfl); (case hc => rfl)) | (apply Ab.O.storeAll; (case hz => rfl); (case hx => exact ev_); (case hy => exact ev_); (case hs => exact at_); (case hl => exact (ints_length _).trans cts_length); (case hc => exact (ints_length _).trans cts_length))) | (apply Og.s; constructor)) | (apply Ab.K.gk; first | (apply Xg.s; constructor) | (apply Ab.gY; case hw => assumption) | (apply Ab.gNT; case hw => assumption) | (apply Ab.gNF; case hw => assumption) | ((first | apply Ab.gD | apply Ab.gDN); all_goals (intro _ _; (first | contradiction | (exfalso; omega) | skip)))) | (apply Ab.K.awp; first | (apply Xg.s; constructor)) | (apply Ab.K.at_; exact at_) | (apply Ab.K.acall; first | assumption | first | exact c8 | exact cA | exact cB | exact cC) | (apply Ab.Rg.mk; omega) | (apply Ab.Lt.mk; first | decide | (simp; done) | (simp; omega) | first | omega | (show (0 + 3 : Nat) < 3 + 1; decide)) | (apply Ab.Get.mk; first | rfl | first | exact g0 | exact g1 | rfl) | (apply Ab.Nm.mk; first | first | exact Eq.trans (congrArg (fun z => List.take _ (List.drop (z * 3) cs)) hk.symm) hE | exact (show ((ec e).drop 0).take 3 = ec e from rfl) | exact nrm_) | (apply Xg.s; constructor) | (apply Ab.asm; assumption) | rfl | infer_instance | decide))
      have hnA : ∀ x ∈ La, TP.Node x := fun x hx => by rw [hLa] at hx; have := lkN_mem.1 hx; exact ⟨this.1, this.2.1⟩
      have hnB : ∀ x ∈ Lb, TP.Node x := fun x hx => by rw [hLb] at hx; have := lkN_mem.1 hx; exact ⟨this.1, this.2.1⟩
      have hcnt : ∀ x ∈ Lc, TP.Node x ∧ (La ++ Lb).count x = 1 := fun x hx => by
        rw [hLc] at hx
        have := lkN_mem.1 hx
        exact ⟨⟨this.1, this.2.1⟩, by rw [List.count_append, hLa, hLb]; exact cut_count hg hc hel hx⟩
      have hLc64 : Lc.length ≤ 64 := by rw [hLc]; exact lkN_len
      clear c8 cA cB cC hLa hLb hLc hlen hq hcs hE g0 g1 h T1 F1 T2 F2 T3 F3 hs1 hs2 hs3 hi' hee hk hkx hwx hkn
      refine AWp.loop (fun kk tm s1 => ∃ i : Nat, Ev tm (.tmp 6) (.slice (some ⟨N + 1, 0, none⟩) La.length La.length) ∧ Ev tm (.tmp 8) (.slice (some ⟨N + 2, 0, none⟩) Lb.length Lb.length) ∧ Ev tm (.tmp 10) (.slice (some ⟨N + 3, 0, none⟩) Lc.length Lc.length) ∧ Ev tm (.tmp 11) (.pointer (some ⟨N + 4, 0, none⟩)) ∧ Ev tm (.tmp 12) (.int .i64 i) ∧ At s1 (N + 1) (.cells true 1 (ints La)) ∧ At s1 (N + 2) (.cells true 1 (ints Lb)) ∧ At s1 (N + 3) (.cells true 1 (ints Lc)) ∧ At s1 (N + 4) (.cells true 1 (ints (cts (La.take i)))) ∧ Fr s1 s [] ∧ i ≤ La.length ∧ kk = La.length - i) La.length ?_ ?_
      · exact ⟨0, by exact ev_, by exact ev_, by exact ev_, by exact ev_, by exact ev_, by exact at_, by exact at_, by exact at_, by exact at_, by exact fr_, by omega, rfl⟩
      rintro kk tm s1 ⟨i, e6, e8, e10, e11, e12, a6, a8, a10, a11, F, hi, hkk⟩
      by_cases hin : i < La.length
      · obtain ⟨x, hx⟩ : ∃ x, La[i]? = some x := ⟨_, List.getElem?_eq_getElem hin⟩
        have hxn := hnA x (List.mem_of_getElem? hx)
        have gx := ints_get hx
        have gc := cts_get (L := La.take i) hxn
        have hcl : (List.count x (La.take i)) ≤ 64 := Nat.le_trans List.count_le_length (by rw [List.length_take]; omega)
        have htk : La.take (i + 1) = La.take i ++ [x] := by rw [List.take_add_one, hx]; rfl
        have hx' : 0 ≤ x ∧ x < 65 := ⟨by have := hxn.1; omega, by have := hxn.2; omega⟩
        have c15 : ∀ s : AHeap, ACall Try.prog 15 [.int .i64 x] s (.bool true) s := fun s => by have := node15 (s := s) (n := x); rwa [decide_eq_true hxn] at this



        (repeat' (first | (apply Ab.K.ev; exact ev_) | (apply Ab.K.aops; first | (apply Xg.s; constructor) | (apply Ab.S.guardU; (case hd => rfl); (case hb => (exact ev_; done))) | apply Ab.S.guardG) | (apply Ab.K.aop; first | (apply Og.s; constructor)) | (apply Ab.K.gk; first | (apply Xg.s; constructor) | (apply Ab.gY; case hw => assumption) | (apply Ab.gNT; case hw => assumption) | (apply Ab.gNF; case hw => assumption) | ((first | apply Ab.gD | apply Ab.gDN); all_goals (intro _ _; (first | contradiction | (exfalso; omega) | skip)))) | (apply Ab.K.awp; first | (apply Xg.s; constructor)) | (apply Ab.K.at_; exact at_) | (apply Ab.K.acall; first | assumption | exact c15 _) | (apply Ab.Rg.mk; omega) | (apply Ab.Lt.mk; first | decide | (simp; done) | (simp; omega) | (rw [ints_length, cts_length]; omega)) | (apply Ab.Get.mk; first | rfl | first | (rw [Int.toNat_natCast]; exact gx) | (rw [Nat.zero_add, Nat.mul_one]; exact gc) | exact gc) | (apply Ab.Nm.mk; first | first | (rw [Nat.zero_add, Nat.mul_one]; exact cts_set hxn) | exact cts_set hxn | exact nrm_) | (apply Xg.s; constructor) | (apply Ab.asm; assumption) | rfl | infer_instance | decide))
        exact X.roundN (La.length - (i + 1)) (by omega) ⟨i + 1, by exact ev_, by exact ev_, by exact ev_, by exact ev_, by exact ev_, by exact at_, by exact at_, by exact at_, by rw [htk]; exact At.hit, by exact fr_, by omega, rfl⟩
      obtain rfl : i = La.length := by omega
      rw [List.take_length] at a11
      (repeat' (first | (apply Ab.K.ev; exact ev_) | (apply Ab.K.aops; first | (apply Xg.s; constructor) | (apply Ab.S.guardU; (case hd => rfl); (case hb => (exact ev_; done))) | apply Ab.S.guardG) | (apply Ab.K.aop; first | (apply Og.s; constructor)) | (apply Ab.K.gk; first | (apply Xg.s; constructor) | (apply Ab.gY; case hw => assumption) | (apply Ab.gNT; case hw => assumption) | (apply Ab.gNF; case hw => assumption) | ((first | apply Ab.gD | apply Ab.gDN); all_goals (intro _ _; (first | contradiction | (exfalso; omega) | skip)))) | (apply Ab.K.awp; first | (apply Xg.s; constructor)) | (apply Ab.K.at_; exact at_) | (apply Ab.K.acall; first | assumption | fail) | (apply Ab.Rg.mk; omega) | (apply Ab.Lt.mk; first | decide | (simp; done) | (simp; omega) | (rw [ints_length, cts_length]; omega)) | (apply Ab.Get.mk; first | rfl | first | (rw [Int.toNat_natCast]; exact gx) | (rw [Nat.zero_add, Nat.mul_one]; exact gc) | exact gc) | (apply Ab.Nm.mk; first | first | (rw [Nat.zero_add, Nat.mul_one]; exact cts_set hxn) | exact cts_set hxn | exact nrm_) | (apply Xg.s; constructor) | (apply Ab.asm; assumption) | rfl | infer_instance | decide))
      refine AWp.loop (fun kk tm s1 => ∃ i : Nat, Ev tm (.tmp 8) (.slice (some ⟨N + 2, 0, none⟩) Lb.length Lb.length) ∧ Ev tm (.tmp 10) (.slice (some ⟨N + 3, 0, none⟩) Lc.length Lc.length) ∧ Ev tm (.tmp 11) (.pointer (some ⟨N + 4, 0, none⟩)) ∧ Ev tm (.tmp 13) (.int .i64 i) ∧ At s1 (N + 2) (.cells true 1 (ints Lb)) ∧ At s1 (N + 3) (.cells true 1 (ints Lc)) ∧ At s1 (N + 4) (.cells true 1 (ints (cts (La ++ Lb.take i)))) ∧ Fr s1 s [] ∧ i ≤ Lb.length ∧ kk = Lb.length - i) Lb.length ?_ ?_
      · exact ⟨0, by exact ev_, by exact ev_, by exact ev_, by exact ev_, a8, a10, by rw [List.take_zero, List.append_nil]; exact a11, F, by omega, rfl⟩
      clear e6 e8 e10 e11 e12 a6 a8 a10 a11 F
      rintro kk tm s1 ⟨i, e8, e10, e11, e12, a8, a10, a11, F, hi, hkk⟩
      by_cases hin : i < Lb.length
      · obtain ⟨x, hx⟩ : ∃ x, Lb[i]? = some x := ⟨_, List.getElem?_eq_getElem hin⟩
        have hxn := hnB x (List.mem_of_getElem? hx)
        have gx := ints_get hx
        have gc := cts_get (L := La ++ Lb.take i) hxn
        have hcl : (List.count x (La ++ Lb.take i)) ≤ 128 := Nat.le_trans List.count_le_length (by rw [List.length_append, List.length_take]; omega)
        have htk : La ++ Lb.take (i + 1) = (La ++ Lb.take i) ++ [x] := by rw [List.take_add_one, hx, List.append_assoc]; rfl
        have hx' : 0 ≤ x ∧ x < 65 := ⟨by have := hxn.1; omega, by have := hxn.2; omega⟩
        have c15 : ∀ s : AHeap, ACall Try.prog 15 [.int .i64 x] s (.bool true) s := fun s => by have := node15 (s := s) (n := x); rwa [decide_eq_true hxn] at this
        (repeat' (first | (apply Ab.K.ev; exact ev_) | (apply Ab.K.aops; first | (apply Xg.s; constructor) | (apply Ab.S.guardU; (case hd => rfl); (case hb => (exact ev_; done))) | apply Ab.S.guardG) | (apply Ab.K.aop; first | (apply Og.s; constructor)) | (apply Ab.K.gk; first | (apply Xg.s; constructor) | (apply Ab.gY; case hw => assumption) | (apply Ab.gNT; case hw => assumption) | (apply Ab.gNF; case hw => assumption) | ((first | apply Ab.gD | apply Ab.gDN); all_goals (intro _ _; (first | contradiction | (exfalso; omega) | skip)))) | (apply Ab.K.awp; first | (apply Xg.s; constructor)) | (apply Ab.K.at_; exact at_) | (apply Ab.K.acall; first | assumption | exact c15 _) | (apply Ab.Rg.mk; omega) | (apply Ab.Lt.mk; first | decide | (simp; done) | (simp; omega) | (rw [ints_length, cts_length]; omega)) | (apply Ab.Get.mk; first | rfl | first | (rw [Int.toNat_natCast]; exact gx) | (rw [Nat.zero_add, Nat.mul_one]; exact gc) | exact gc) | (apply Ab.Nm.mk; first | first | (rw [Nat.zero_add, Nat.mul_one]; exact cts_set hxn) | exact cts_set hxn | exact nrm_) | (apply Xg.s; constructor) | (apply Ab.asm; assumption) | rfl | infer_instance | decide))
        exact X.roundN (Lb.length - (i + 1)) (by omega) ⟨i + 1, by exact ev_, by exact ev_, by exact ev_, by exact ev_, by exact at_, by exact at_, by rw [htk]; exact At.hit, by exact fr_, by omega, rfl⟩
      obtain rfl : i = Lb.length := by omega
      rw [List.take_length] at a11
      (repeat' (first | (apply Ab.K.ev; exact ev_) | (apply Ab.K.aops; first | (apply Xg.s; constructor) | (apply Ab.S.guardU; (case hd => rfl); (case hb => (exact ev_; done))) | apply Ab.S.guardG) | (apply Ab.K.aop; first | (apply Og.s; constructor)) | (apply Ab.K.gk; first | (apply Xg.s; constructor) | (apply Ab.gY; case hw => assumption) | (apply Ab.gNT; case hw => assumption) | (apply Ab.gNF; case hw => assumption) | ((first | apply Ab.gD | apply Ab.gDN); all_goals (intro _ _; (first | contradiction | (exfalso; omega) | skip)))) | (apply Ab.K.awp; first | (apply Xg.s; constructor)) | (apply Ab.K.at_; exact at_) | (apply Ab.K.acall; first | assumption | fail) | (apply Ab.Rg.mk; omega) | (apply Ab.Lt.mk; first | decide | (simp; done) | (simp; omega) | (rw [ints_length, cts_length]; omega)) | (apply Ab.Get.mk; first | rfl | first | (rw [Int.toNat_natCast]; exact gx) | (rw [Nat.zero_add, Nat.mul_one]; exact gc) | exact gc) | (apply Ab.Nm.mk; first | first | (rw [Nat.zero_add, Nat.mul_one]; exact cts_set hxn) | exact cts_set hxn | exact nrm_) | (apply Xg.s; constructor) | (apply Ab.asm; assumption) | rfl | infer_instance | decide))
      refine AWp.loop (fun kk tm s1 => ∃ i : Nat, Ev tm (.tmp 10) (.slice (some ⟨N + 3, 0, none⟩) Lc.length Lc.length) ∧ Ev tm (.tmp 11) (.pointer (some ⟨N + 4, 0, none⟩)) ∧ Ev tm (.tmp 14) (.int .i64 i) ∧ At s1 (N + 3) (.cells true 1 (ints Lc)) ∧ At s1 (N + 4) (.cells true 1 (ints (cts (La ++ Lb)))) ∧ Fr s1 s [] ∧ i ≤ Lc.length ∧ kk = Lc.length - i) Lc.length ?_ ?_
      · exact ⟨0, by exact ev_, by exact ev_, by exact ev_, a10, a11, F, by omega, rfl⟩
      clear e8 e10 e11 e12 a8 a10 a11 F
      rintro kk tm s1 ⟨i, e10, e11, e12, a10, a11, F, hi, hkk⟩
      by_cases hin : i < Lc.length
      · obtain ⟨x, hx⟩ : ∃ x, Lc[i]? = some x := ⟨_, List.getElem?_eq_getElem hin⟩
        obtain ⟨hxn, hone⟩ := hcnt x (List.mem_of_getElem? hx)
        have gx := ints_get hx
        have gc := cts_get (L := La ++ Lb) hxn
        rw [hone] at gc
        have hx' : 0 ≤ x ∧ x < 65 := ⟨by have := hxn.1; omega, by have := hxn.2; omega⟩
        (repeat' (first | (apply Ab.K.ev; exact ev_) | (apply Ab.K.aops; first | (apply Xg.s; constructor) | (apply Ab.S.guardU; (case hd => rfl); (case hb => (exact ev_; done))) | apply Ab.S.guardG) | (apply Ab.K.aop; first | (apply Og.s; constructor)) | (apply Ab.K.gk; first | (apply Xg.s; constructor) | (apply Ab.gY; case hw => assumption) | (apply Ab.gNT; case hw => assumption) | (apply Ab.gNF; case hw => assumption) | ((first | apply Ab.gD | apply Ab.gDN); all_goals (intro _ _; (first | contradiction | (exfalso; omega) | skip)))) | (apply Ab.K.awp; first | (apply Xg.s; constructor)) | (apply Ab.K.at_; exact at_) | (apply Ab.K.acall; first | assumption | fail) | (apply Ab.Rg.mk; omega) | (apply Ab.Lt.mk; first | decide | (simp; done) | (simp; omega) | (rw [ints_length, cts_length]; omega)) | (apply Ab.Get.mk; first | rfl | first | (rw [Int.toNat_natCast]; exact gx) | (rw [Nat.zero_add, Nat.mul_one]; exact gc) | exact gc) | (apply Ab.Nm.mk; first | first | (rw [Nat.zero_add, Nat.mul_one]; exact cts_set hxn) | exact cts_set hxn | exact nrm_) | (apply Xg.s; constructor) | (apply Ab.asm; assumption) | rfl | infer_instance | decide))
        exact X.roundN (Lc.length - (i + 1)) (by omega) ⟨i + 1, by exact ev_, by exact ev_, by exact ev_, a10, a11, F, by omega, rfl⟩
      obtain rfl : i = Lc.length := by omega
      (repeat' (first | (apply Ab.K.ev; exact ev_) | (apply Ab.K.aops; first | (apply Xg.s; constructor) | (apply Ab.S.guardU; (case hd => rfl); (case hb => (exact ev_; done))) | apply Ab.S.guardG) | (apply Ab.K.aop; first | (apply Og.s; constructor)) | (apply Ab.K.gk; first | (apply Xg.s; constructor) | (apply Ab.gY; case hw => assumption) | (apply Ab.gNT; case hw => assumption) | (apply Ab.gNF; case hw => assumption) | ((first | apply Ab.gD | apply Ab.gDN); all_goals (intro _ _; (first | contradiction | (exfalso; omega) | skip)))) | (apply Ab.K.awp; first | (apply Xg.s; constructor)) | (apply Ab.K.at_; exact at_) | (apply Ab.K.acall; first | assumption | exact aw _) | (apply Ab.Rg.mk; omega) | (apply Ab.Lt.mk; first | decide | (simp; done) | (simp; omega) | (rw [ints_length, cts_length]; omega)) | (apply Ab.Get.mk; first | rfl | first | (rw [Int.toNat_natCast]; exact gx) | (rw [Nat.zero_add, Nat.mul_one]; exact gc) | exact gc) | (apply Ab.Nm.mk; first | first | (rw [Nat.zero_add, Nat.mul_one]; exact cts_set hxn) | exact cts_set hxn | exact nrm_) | (apply Xg.s; constructor) | (apply Ab.asm; assumption) | rfl | infer_instance | decide))
      all_goals ((first | apply RetQ.ret | apply RetQ.normal); (case he => exact evr_); (case hg => rfl))
      all_goals first | rfl | exact Keeps.fr F (plR.nm rfl)
  · have h60' : n = 0 ∨ 60 < n := by omega
    (repeat' (first | (apply Ab.K.ev; exact ev_) | (apply Ab.K.aops; first | (apply Xg.s; constructor) | (apply Ab.S.guardU; (case hd => rfl); (case hb => (exact ev_; done))) | apply Ab.S.guardG) | (apply Ab.K.aop; first | (apply Og.s; constructor)) | (apply Ab.K.gk; first | (apply Xg.s; constructor) | (apply Ab.gY; case hw => assumption) | (apply Ab.gNT; case hw => assumption) | (apply Ab.gNF; case hw => assumption) | ((first | apply Ab.gD | apply Ab.gDN); all_goals (intro _ _; (first | contradiction | (exfalso; omega) | skip)))) | (apply Ab.K.awp; first | (apply Xg.s; constructor)) | (apply Ab.K.at_; exact at_) | (apply Ab.K.acall; first | assumption | exact aw _) | (apply Ab.Rg.mk; omega) | (apply Ab.Lt.mk; first | decide | (simp; done) | (simp; omega) | (rw [ints_length, cts_length]; omega)) | (apply Ab.Get.mk; first | rfl | first | (rw [Int.toNat_natCast]; exact gx) | (rw [Nat.zero_add, Nat.mul_one]; exact gc) | exact gc) | (apply Ab.Nm.mk; first | first | (rw [Nat.zero_add, Nat.mul_one]; exact cts_set hxn) | exact cts_set hxn | exact nrm_) | (apply Xg.s; constructor) | (apply Ab.asm; assumption) | rfl | infer_instance | decide))
    all_goals ((first | apply RetQ.ret | apply RetQ.normal); (case he => exact evr_); (case hg => rfl))
    all_goals first | rfl | (apply Keeps.fr; (case h => exact fr_); (case hv => exact plR.nm rfl))
end Go.Proofs.Ytnbgeodignljfaa
