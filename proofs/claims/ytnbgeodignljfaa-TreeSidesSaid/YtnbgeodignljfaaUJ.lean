/- trees: both sides of any edge, and all behind a node. -/
import Derived.Test.YtnbgeodignljfaaUG
import Derived.Test.YtnbgeodignljfaaTR
namespace Go.Proofs.Ytnbgeodignljfaa
set_option linter.unusedVariables false
set_option linter.unusedSimpArgs false
set_option linter.unusedSectionVars false
open Go.RowKit Ab TP
instance : HasTD Try.prog 38 ⟨.array 2 3, 2, 16, .agg #[.int .i64 0, .int .i64 0]⟩ := ⟨by kernel_rfl⟩

/-- What the program's side answers. -/
def SideF (l : List E) (cut : E) (a : Int) (o : Nat) (s : AHeap) (sv : Value) (se : Int) : Prop :=
  (sOk l a = false ∧ se = 1 ∧ sv = .slice none 0 0) ∨ (sOk l a = true ∧ cut ∉ l ∧ se = 4 ∧ sv = .slice none 0 0) ∨
    (sOk l a = true ∧ cut ∈ l ∧ se = 0 ∧ sv = .slice (some ⟨o, 0, none⟩) (side (rm l cut) a).length (side (rm l cut) a).length ∧ At s o (.cells true 1 (ints (side (rm l cut) a))))
theorem side13 {s : AHeap} {A : Option Addr} {n c : Nat} {on : Option Nat} {l : List E} {cut : E} {a : Int} {o : Nat} (h : EA s (.slice A n c) on l) (hn : n ≤ 512) (hT : Top o s) :
    ∃ sv se s', ACall Try.prog 13 [.slice A n c, .agg (ec cut).toArray, .int .i64 a] s (.tuple #[sv, .int .i64 se]) s' ∧ Fr s' s [] ∧ Top (o + 1) s' ∧ SideF l cut a o s' sv se := by
  cases hok : sOk l a
  · exact ⟨_, _, s, side13_no h hn hok, Fr.refl _ _, hT.mono (by omega), .inl ⟨hok, rfl, rfl⟩⟩
  · by_cases hin : cut ∈ l
    · exact ⟨_, _, _, side13_yes h hn hok hin (hT.none (Nat.le_refl _)), Fr.new (hT.free (Nat.le_refl _)) (Fr.refl _ _), hT.new, .inr (.inr ⟨hok, hin, rfl, rfl, At.hit⟩)⟩
    · exact ⟨_, _, s, side13_none h hn hok hin, Fr.refl _ _, hT.mono (by omega), .inr (.inl ⟨hok, hin, rfl, rfl⟩)⟩
/-- What the program's list of all behind a node answers. -/
def BelF (l : List E) (root a : Int) (o : Nat) (s : AHeap) (dv : Value) (df : Int) : Prop :=
  (wOk l a root = false ∧ df = 1 ∧ dv = .slice none 0 0) ∨ (wOk l a root = true ∧ lkB l root a = false ∧ df = 9 ∧ dv = .slice none 0 0) ∨
    (wOk l a root = true ∧ lkB l root a = true ∧ df = 0 ∧ dv = .slice (some ⟨o, 0, none⟩) (bel l root a).length (bel l root a).length ∧ At s o (.cells true 1 (ints (bel l root a))))
theorem below16 {s : AHeap} {A : Option Addr} {n c : Nat} {on : Option Nat} {l : List E} {root a : Int} {o : Nat} (h : EA s (.slice A n c) on l) (hn : n ≤ 512) (hT : Top o s) :
    ∃ dv df s', ACall Try.prog 16 [.slice A n c, .int .i64 root, .int .i64 a] s (.tuple #[dv, .int .i64 df]) s' ∧ Fr s' s [] ∧ Top (o + 1) s' ∧ BelF l root a o s' dv df := by
  cases hok : wOk l a root
  · exact ⟨_, _, s, below16_err (by decide) (fun s1 F => way11_no (h.fr F) hn hok), Fr.refl _ _, hT.mono (by omega), .inl ⟨hok, rfl, rfl⟩⟩
  · obtain ⟨hg, hf, ha, hr⟩ := wOk_iff.1 hok
    have hc := hf.cut hg.2.nodup
    cases hlk : lkB l root a
    · have hnc : ¬ Conn l a root := fun hcn => by rw [lkB_iff.2 ⟨hr, ha, hcn.symm⟩] at hlk; cases hlk
      exact ⟨_, _, s, below16_err (by decide) (fun s1 F => way11_none (h.fr F) hn hok hnc), Fr.refl _ _, hT.mono (by omega), .inr (.inl ⟨hok, hlk, rfl, rfl⟩)⟩
    · obtain ⟨_, _, hcon⟩ := lkB_iff.1 hlk
      by_cases hab : a = root
      · subst hab
        have c := below16_self (o := o) h hn hok (hT.none (Nat.le_refl _))
        rw [← bel_self ha] at c
        exact ⟨_, _, _, c, Fr.new (hT.free (Nat.le_refl _)) (Fr.refl _ _), hT.new, .inr (.inr ⟨hok, hlk, rfl, rfl, At.hit⟩)⟩
      · obtain ⟨p, hw⟩ := Way.ex hcon.symm
        have hex : ∃ w1 t, p = a :: w1 :: t := by
          cases hw with
          | one => exact absurd rfl hab
          | cons _ _ r => obtain ⟨t, ht⟩ := r.head; exact ⟨_, t, by rw [ht]⟩
        obtain ⟨w1, t, rfl⟩ := hex
        obtain ⟨e, he, hh, _⟩ := hw.edge (k := 0) rfl rfl
        have c := below16_yes (o := o) h hn hok hw he hh hab (hT.none (Nat.le_refl _))
        rw [← bel_rm hc ha hr hw he hh] at c
        exact ⟨_, _, _, c, Fr.new (hT.free (Nat.le_refl _)) (Fr.refl _ _), hT.new, .inr (.inr ⟨hok, hlk, rfl, rfl, At.hit⟩)⟩
theorem okB_sOk {l : List E} {a : Int} : okB l a a = sOk l a := by rw [Bool.eq_iff_iff, okB_iff, sOk_iff]; exact ⟨fun h => ⟨h.1, h.2.1, h.2.2.1⟩, fun h => ⟨h.1, h.2.1, h.2.2, h.2.2⟩⟩
theorem sOk_wOk {l : List E} {a root : Int} (h : sOk l a = true) : wOk l a root = decide (TP.Node root) := by
  obtain ⟨h1, h2, h3⟩ := sOk_iff.1 h
  rw [Bool.eq_iff_iff, wOk_iff, decide_eq_true_iff]; exact ⟨fun h => h.2.2.2, fun h => ⟨h1, h2, h3, h⟩⟩
attribute [local irreducible] AOps AOpsD AOp AWp put nargs AHeap.set At Free ACall ACallE thenQ blockQ roundQ RetQ RetE Src bsn Gr

set_option maxHeartbeats 8000000 in
theorem law5 {s : AHeap} {A : Option Addr} {n c : Nat} {on : Option Nat} {l : List E} {cut : E} {root a : Int} (h : EA s (.slice A n c) on l) :
    ACall Try.prog 5 [.slice A n c, .agg (ec cut).toArray, .agg #[.int .i64 root, .int .i64 a]] s (.bool true) s := by
  have hnl : n = l.length := by obtain ⟨_, _, e⟩ := h.isl; injection e
  refine ACall.make Try.func5 rfl (by kernel_rfl) (by decide) rfl (fun N hN => ?_)
  have hT : Top N s := hN
  have aw : ∀ s : AHeap, ACall Try.prog 10 [] s (.bool true) s := fun s => awake10
  obtain ⟨s1, hs1⟩ : ∃ s1, s1 = (s.set N (.cells true 1 (ec cut))).set (N + 1) (.cells true 1 [.int .i64 root, .int .i64 a]) := ⟨_, rfl⟩
  have T1 : Top (N + 2) s1 := by rw [hs1]; exact hT.new.new
  have F1 : Fr s1 s [] := by rw [hs1]; exact Fr.new (hT.free (by omega)) (Fr.new (hT.free (Nat.le_refl _)) (Fr.refl _ _))
  have h1 := h.fr F1




  by_cases h60 : (n : Int) > 60
  · 
    (repeat' (first | (apply Ab.K.ev; exact ev_) | (apply Ab.K.aops; first | (apply Xg.s; constructor) | (apply Ab.S.guardU; (case hd => rfl); (case hb => (exact ev_; done))) | apply Ab.S.guardG) | (apply Ab.K.aop; first | (first | (apply Ab.O.boxA (l := ec cut) N; (case hx => exact ev_); (case hid => exact hT.free (Nat.le_refl _))) | (apply Ab.O.boxA (l := [.int .i64 root, .int .i64 a]) (N + 1); (case hx => exact ev_); (case hid => exact hT.new.free (Nat.le_refl _)))) | (apply Og.s; constructor)) | (apply Ab.K.gk; first | (apply Xg.s; constructor) | (apply Ab.gY; case hw => assumption) | (apply Ab.gNT; case hw => assumption) | (apply Ab.gNF; case hw => assumption) | ((first | apply Ab.gD | apply Ab.gDN); all_goals (intro _ _; (first | contradiction | (exfalso; omega) | skip)))) | (apply Ab.K.aopsD; first | (apply Ab.D.q0t; (case hw => rfl); (case hot => rfl)) | (apply Ab.D.w1t; (case hw => rfl); (case hot => rfl)) | (apply Ab.D.q0; (case hw => rfl); intro _ _) | (apply Ab.D.w1n; (case hw => rfl); intro _ _) | (apply Ab.D.w2n; (case hw => rfl); intro _ _) | (apply Xg.s; constructor) | (apply Ab.D.guardU; (case hd => rfl); (case hb => (exact ev_; done))) | apply Ab.D.guardG) | exact ⟨rfl, rfl⟩ | (apply Ab.K.awp; first | (apply AWp.draw (id := 3) [[], [0], [], [2], [0, 1], [0, 1, 2, 3, 4]] [] (by kernel_rfl) (by kernel_rfl) (by simp [apartW, unordB, cC] <;> omega)) | (apply Xg.s; constructor)) | (apply Ab.K.at_; exact at_) | (apply Ab.K.acall; first | assumption | exact aw _) | (apply Ab.Rg.mk; omega) | (apply Ab.Lt.mk; first | decide | (simp; done) | (simp; omega) | first | omega | (show (0 + 3 : Nat) < 3 + 1; decide)) | (apply Ab.Get.mk; first | rfl | first | rfl) | (apply Ab.Nm.mk; first | first | exact (show ((ec cut).drop 0).take 3 = ec cut from rfl) | exact nrm_) | (apply Xg.s; constructor) | (apply Ab.asm; assumption) | rfl | infer_instance | decide))
    all_goals ((first | apply RetQ.ret | apply RetQ.normal); (case he => exact evr_); (case hg => rfl))
    all_goals first | rfl | (apply Keeps.fr; (case h => exact fr_); (case hv => exact plR.nm rfl))
  have hn : n ≤ 512 := by omega
  obtain ⟨sv, se, s2, c13, F21, T2, hS⟩ := side13 (cut := cut) (a := a) h1 hn T1
  obtain ⟨dv, df, s3, c16, F32, T3, hB⟩ := below16 (root := root) (a := a) (h1.fr F21) hn T2
  have F3 : Fr s3 s [] := fun i hi c hc => F32 i hi c (F21 i hi c (F1 i hi c hc))
  have aC : At s3 N (.cells true 1 (ec cut)) := At.var (F32 N (by simp) _ (F21 N (by simp) _ (by rw [hs1]; exact At.eq (At.miss (by omega) At.hit))))
  rw [hs1] at c13
  (repeat' (first | (apply Ab.K.ev; exact ev_) | (apply Ab.K.aops; first | (apply Xg.s; constructor) | (apply Ab.S.guardU; (case hd => rfl); (case hb => (exact ev_; done))) | apply Ab.S.guardG) | (apply Ab.K.aop; first | (first | (apply Ab.O.boxA (l := ec cut) N; (case hx => exact ev_); (case hid => exact hT.free (Nat.le_refl _))) | (apply Ab.O.boxA (l := [.int .i64 root, .int .i64 a]) (N + 1); (case hx => exact ev_); (case hid => exact hT.new.free (Nat.le_refl _)))) | (apply Og.s; constructor)) | (apply Ab.K.gk; first | (apply Xg.s; constructor) | (apply Ab.gY; case hw => assumption) | (apply Ab.gNT; case hw => assumption) | (apply Ab.gNF; case hw => assumption) | ((first | apply Ab.gD | apply Ab.gDN); all_goals (intro _ _; (first | contradiction | (exfalso; omega) | skip)))) | (apply Ab.K.aopsD; first | (apply Ab.D.q0t; (case hw => rfl); (case hot => rfl)) | (apply Ab.D.w1t; (case hw => rfl); (case hot => rfl)) | (apply Ab.D.q0; (case hw => rfl); intro _ _) | (apply Ab.D.w1n; (case hw => rfl); intro _ _) | (apply Ab.D.w2n; (case hw => rfl); intro _ _) | (apply Xg.s; constructor) | (apply Ab.D.guardU; (case hd => rfl); (case hb => (exact ev_; done))) | apply Ab.D.guardG) | exact ⟨rfl, rfl⟩ | (apply Ab.K.awp; first | (apply AWp.draw (id := 3) [[], [0], [], [2], [0, 1], [0, 1, 2, 3, 4]] [] (by kernel_rfl) (by kernel_rfl) (by simp [apartW, unordB, cC] <;> omega)) | (apply Xg.s; constructor)) | (apply Ab.K.at_; exact at_) | (apply Ab.K.acall; first | assumption | first | exact c13 | exact c16) | (apply Ab.Rg.mk; omega) | (apply Ab.Lt.mk; first | decide | (simp; done) | (simp; omega) | first | omega | (show (0 + 3 : Nat) < 3 + 1; decide)) | (apply Ab.Get.mk; first | rfl | first | rfl) | (apply Ab.Nm.mk; first | first | exact (show ((ec cut).drop 0).take 3 = ec cut from rfl) | exact nrm_) | (apply Xg.s; constructor) | (apply Ab.asm; assumption) | rfl | infer_instance | decide))
  have hS3 : SideF l cut a (N + 2) s3 sv se := by
    rcases hS with h | h | ⟨h1, h2, h3, h4, h5⟩
    · exact .inl h
    · exact .inr (.inl h)
    · exact .inr (.inr ⟨h1, h2, h3, h4, At.var (F32 _ (by simp) _ h5.eq)⟩)
  clear c13 c16 hS F32 F21 F1 T1 T2 h1 hs1

  refine AWp.loop (fun kk tm s4 => ∃ i : Nat, Ev tm (.tmp 0) (.slice A n c) ∧ Ev tm (.tmp 4) (.pointer (some ⟨N, 0, none⟩)) ∧ Ev tm (.tmp 7) (.int .i64 root) ∧ Ev tm (.tmp 8) (.int .i64 a) ∧ Ev tm (.tmp 9) sv ∧ Ev tm (.tmp 10) (.int .i64 se) ∧ Ev tm (.tmp 11) dv ∧ Ev tm (.tmp 12) (.int .i64 df) ∧ Ev tm (.tmp 13) (.bool (decide (cut ∈ l.take i))) ∧ Ev tm (.tmp 14) (.int .i64 i) ∧ s4 = s3 ∧ i ≤ n ∧ kk = n - i) n ?_ ?_
  · refine ⟨0, by exact ev_, by exact ev_, by exact ev_, by exact ev_, by exact ev_, by exact ev_, by exact ev_, by exact ev_, ?_, by exact ev_, rfl, by omega, rfl⟩
    rw [show decide (cut ∈ l.take 0) = false from decide_eq_false (by simp)]; exact ev_
  rintro kk tm s4 ⟨i, e0, e4, e7, e8, e9, e10, e11, e12, e13, e14, rfl, hi, hkk⟩
  by_cases hin : i < n
  · have hi' : l[i]? = some (l[i]'(by omega)) := List.getElem?_eq_getElem (by omega)
    obtain ⟨f, hff⟩ : ∃ f, f = l[i]'(by omega) := ⟨_, rfl⟩
    rw [← hff] at hi'
    have htk : l.take (i + 1) = l.take i ++ [f] := by rw [List.take_add_one, hi']; rfl
    obtain ⟨q', rw1, cs, rfl, hon, _, hq', hcs, hE, _⟩ := (h.fr F3).elt hi'
    have q1 : ∀ x y, ABin Try.prog .eql 32 x y (.agg (ec f).toArray) (.agg (ec cut).toArray) (.bool (decide (f = cut))) := fun x y => eq32


    by_cases hm : cut ∈ l.take i
    · have hm2 : cut ∈ l.take (i + 1) := by rw [htk]; exact List.mem_append_left _ hm
      rw [decide_eq_true hm] at e13
      (repeat' (first | (apply Ab.K.ev; exact ev_) | (apply Ab.K.aops; first | (apply Xg.s; constructor) | (apply Ab.S.guardU; (case hd => rfl); (case hb => (exact ev_; done))) | apply Ab.S.guardG) | (apply Ab.K.aop; first | (apply Ab.O.bin; (case hx => exact ev_); (case hy => exact ev_); (case hv => exact q1 _ _)) | (apply Og.s; constructor)) | (apply Ab.K.gk; first | (apply Xg.s; constructor) | (apply Ab.gY; case hw => assumption) | (apply Ab.gNT; case hw => assumption) | (apply Ab.gNF; case hw => assumption) | ((first | apply Ab.gD | apply Ab.gDN); all_goals (intro _ _; (first | contradiction | (exfalso; omega) | skip)))) | (apply Ab.K.aopsD; first | (apply Ab.D.q0t; (case hw => rfl); (case hot => rfl)) | (apply Ab.D.w1t; (case hw => rfl); (case hot => rfl)) | (apply Ab.D.q0; (case hw => rfl); intro _ _) | (apply Ab.D.w1n; (case hw => rfl); intro _ _) | (apply Ab.D.w2n; (case hw => rfl); intro _ _) | (apply Xg.s; constructor) | (apply Ab.D.guardU; (case hd => rfl); (case hb => (exact ev_; done))) | apply Ab.D.guardG) | exact ⟨rfl, rfl⟩ | (apply Ab.K.awp; first | (apply AWp.draw (id := 10) [[], [0], [0, 1], [0, 1], [0, 1, 2, 3], [0, 1, 2, 3, 4], [0, 1], [0, 1, 2, 3, 4, 5, 6], [0, 1, 2, 3, 4, 5, 6, 7], [0, 1, 2, 3, 4, 5, 6, 7, 8]] [] (by kernel_rfl) (by kernel_rfl) (by simp [apartW, unordB, cC] <;> omega)) | (apply Xg.s; constructor)) | (apply Ab.K.at_; exact at_) | (apply Ab.K.acall; first | assumption | fail) | (apply Ab.Rg.mk; omega) | (apply Ab.Lt.mk; first | decide | (simp; done) | (simp; omega) | first | omega | (show (0 + 3 : Nat) < 3 + 1; decide)) | (apply Ab.Get.mk; first | rfl | first | rfl) | (apply Ab.Nm.mk; first | first | exact Eq.trans (congrArg (fun z => List.take _ (List.drop (z * 3) cs)) (Int.toNat_natCast i)) hE | exact (show ((ec cut).drop 0).take 3 = ec cut from rfl) | exact nrm_) | (apply Xg.s; constructor) | (apply Ab.asm; assumption) | rfl | infer_instance | decide))
      exact X.roundN (n - (i + 1)) (by omega) ⟨i + 1, by exact ev_, by exact ev_, by exact ev_, by exact ev_, by exact ev_, by exact ev_, by exact ev_, by exact ev_, by rw [decide_eq_true hm2]; exact ev_, by exact ev_, rfl, by omega, rfl⟩
    · have hm2 : decide (cut ∈ l.take (i + 1)) = decide (f = cut) := by
        rw [Bool.eq_iff_iff, decide_eq_true_iff, decide_eq_true_iff, htk, List.mem_append, List.mem_singleton]
        exact ⟨fun h => (h.resolve_left hm).symm, fun h => .inr h.symm⟩
      rw [decide_eq_false hm] at e13
      (repeat' (first | (apply Ab.K.ev; exact ev_) | (apply Ab.K.aops; first | (apply Xg.s; constructor) | (apply Ab.S.guardU; (case hd => rfl); (case hb => (exact ev_; done))) | apply Ab.S.guardG) | (apply Ab.K.aop; first | (apply Ab.O.bin; (case hx => exact ev_); (case hy => exact ev_); (case hv => exact q1 _ _)) | (apply Og.s; constructor)) | (apply Ab.K.gk; first | (apply Xg.s; constructor) | (apply Ab.gY; case hw => assumption) | (apply Ab.gNT; case hw => assumption) | (apply Ab.gNF; case hw => assumption) | ((first | apply Ab.gD | apply Ab.gDN); all_goals (intro _ _; (first | contradiction | (exfalso; omega) | skip)))) | (apply Ab.K.aopsD; first | (apply Ab.D.q0t; (case hw => rfl); (case hot => rfl)) | (apply Ab.D.w1t; (case hw => rfl); (case hot => rfl)) | (apply Ab.D.q0; (case hw => rfl); intro _ _) | (apply Ab.D.w1n; (case hw => rfl); intro _ _) | (apply Ab.D.w2n; (case hw => rfl); intro _ _) | (apply Xg.s; constructor) | (apply Ab.D.guardU; (case hd => rfl); (case hb => (exact ev_; done))) | apply Ab.D.guardG) | exact ⟨rfl, rfl⟩ | (apply Ab.K.awp; first | (apply AWp.draw (id := 10) [[], [0], [0, 1], [0, 1], [0, 1, 2, 3], [0, 1, 2, 3, 4], [0, 1], [0, 1, 2, 3, 4, 5, 6], [0, 1, 2, 3, 4, 5, 6, 7], [0, 1, 2, 3, 4, 5, 6, 7, 8]] [] (by kernel_rfl) (by kernel_rfl) (by simp [apartW, unordB, cC] <;> omega)) | (apply Xg.s; constructor)) | (apply Ab.K.at_; exact at_) | (apply Ab.K.acall; first | assumption | fail) | (apply Ab.Rg.mk; omega) | (apply Ab.Lt.mk; first | decide | (simp; done) | (simp; omega) | first | omega | (show (0 + 3 : Nat) < 3 + 1; decide)) | (apply Ab.Get.mk; first | rfl | first | rfl) | (apply Ab.Nm.mk; first | first | exact Eq.trans (congrArg (fun z => List.take _ (List.drop (z * 3) cs)) (Int.toNat_natCast i)) hE | exact (show ((ec cut).drop 0).take 3 = ec cut from rfl) | exact nrm_) | (apply Xg.s; constructor) | (apply Ab.asm; assumption) | rfl | infer_instance | decide))
      exact X.roundN (n - (i + 1)) (by omega) ⟨i + 1, by exact ev_, by exact ev_, by exact ev_, by exact ev_, by exact ev_, by exact ev_, by exact ev_, by exact ev_, by rw [hm2]; exact ev_, by exact ev_, rfl, by omega, rfl⟩

  obtain rfl : i = n := by omega
  rw [hnl, List.take_length] at e13
  (repeat' ((fail_if_success (apply Ab.X.stopC)); first | (apply Ab.K.ev; exact ev_) | (apply Ab.K.aops; first | (apply Xg.s; constructor) | (apply Ab.S.guardU; (case hd => rfl); (case hb => (exact ev_; done))) | apply Ab.S.guardG) | (apply Ab.K.aop; first | (apply Og.s; constructor)) | (apply Ab.K.gk; first | (apply Xg.s; constructor) | (apply Ab.gY; case hw => assumption) | (apply Ab.gNT; case hw => assumption) | (apply Ab.gNF; case hw => assumption) | ((first | apply Ab.gD | apply Ab.gDN); all_goals (intro _ _; (first | contradiction | (exfalso; omega) | skip)))) | (apply Ab.K.awp; first | (apply Xg.s; constructor)) | (apply Ab.K.at_; exact at_) | (apply Ab.K.acall; first | assumption | fail) | (apply Ab.Rg.mk; omega) | (apply Ab.Lt.mk; first | decide | (simp; done) | (simp; omega) | first | omega | (show (0 + 3 : Nat) < 3 + 1; decide)) | (apply Ab.Get.mk; first | rfl | first | rfl) | (apply Ab.Nm.mk; first | first | exact Eq.trans (congrArg (fun z => List.take _ (List.drop (z * 3) cs)) (Int.toNat_natCast i)) hE | exact (show ((ec cut).drop 0).take 3 = ec cut from rfl) | exact nrm_) | (apply Xg.s; constructor) | (apply Ab.asm; assumption) | rfl | infer_instance | decide))
  have c8 := may8 (a := a) (b := a) (h.fr F3) hn
  rw [okB_sOk] at c8
  rcases hS3 with ⟨hso, rfl, rfl⟩ | hS
  · have hwo : wOk l a root = false := by
      cases hh : wOk l a root with
      | false => rfl
      | true => obtain ⟨a1, a2, a3, _⟩ := wOk_iff.1 hh; rw [sOk_iff.2 ⟨a1, a2, a3⟩] at hso; cases hso
    rw [hso] at c8
    rcases hB with ⟨_, rfl, rfl⟩ | ⟨h1, _⟩ | ⟨h1, _⟩
    · (repeat' (first | (apply Ab.K.ev; exact ev_) | (apply Ab.K.aops; first | (apply Xg.s; constructor) | (apply Ab.S.guardU; (case hd => rfl); (case hb => (exact ev_; done))) | apply Ab.S.guardG) | (apply Ab.K.aop; first | (apply Og.s; constructor)) | (apply Ab.K.gk; first | (apply Xg.s; constructor) | (apply Ab.gY; case hw => assumption) | (apply Ab.gNT; case hw => assumption) | (apply Ab.gNF; case hw => assumption) | ((first | apply Ab.gD | apply Ab.gDN); all_goals (intro _ _; (first | contradiction | (exfalso; omega) | skip)))) | (apply Ab.K.awp; first | (apply Xg.s; constructor)) | (apply Ab.K.at_; exact at_) | (apply Ab.K.acall; first | assumption | first | exact c8 | exact aw _) | (apply Ab.Rg.mk; omega) | (apply Ab.Lt.mk; first | decide | (simp; done) | (simp; omega) | first | omega | (show (0 + 3 : Nat) < 3 + 1; decide)) | (apply Ab.Get.mk; first | rfl | first | rfl) | (apply Ab.Nm.mk; first | first | exact Eq.trans (congrArg (fun z => List.take _ (List.drop (z * 3) cs)) (Int.toNat_natCast i)) hE | exact (show ((ec cut).drop 0).take 3 = ec cut from rfl) | exact nrm_) | (apply Xg.s; constructor) | (apply Ab.asm; assumption) | rfl | infer_instance | decide))
      all_goals ((first | apply RetQ.ret | apply RetQ.normal); (case he => exact evr_); (case hg => rfl))
      all_goals first | rfl | exact Keeps.fr F3 (plR.nm rfl)
    · rw [hwo] at h1; cases h1
    · rw [hwo] at h1; cases h1
  · have hso : sOk l a = true := by rcases hS with h | h <;> exact h.1
    obtain ⟨hg, hf, ha⟩ := sOk_iff.1 hso
    rw [hso] at c8
    refine AWp.cut (fun tm s4 => Ev tm (.tmp 0) (.slice A i c) ∧ Ev tm (.tmp 7) (.int .i64 root) ∧ Ev tm (.tmp 8) (.int .i64 a) ∧ Ev tm (.tmp 11) dv ∧ Ev tm (.tmp 12) (.int .i64 df) ∧ Fr s4 s [] ∧ Top (N + 5) s4 ∧ BelF l root a (N + 3) s4 dv df) ?_ ?_
    · rcases hS with ⟨_, hcl, rfl, rfl⟩ | ⟨_, hcl, rfl, rfl, aS⟩
      · rw [decide_eq_false hcl] at e13
        (repeat' (first | (apply Ab.K.ev; exact ev_) | (apply Ab.K.aops; first | (apply Xg.s; constructor) | (apply Ab.S.guardU; (case hd => rfl); (case hb => (exact ev_; done))) | apply Ab.S.guardG) | (apply Ab.K.aop; first | (apply Og.s; constructor)) | (apply Ab.K.gk; first | (apply Xg.s; constructor) | (apply Ab.gY; case hw => assumption) | (apply Ab.gNT; case hw => assumption) | (apply Ab.gNF; case hw => assumption) | ((first | apply Ab.gD | apply Ab.gDN); all_goals (intro _ _; (first | contradiction | (exfalso; omega) | skip)))) | (apply Ab.K.awp; first | (apply Xg.s; constructor)) | (apply Ab.K.at_; exact at_) | (apply Ab.K.acall; first | assumption | first | exact c8 | exact aw _) | (apply Ab.Rg.mk; omega) | (apply Ab.Lt.mk; first | decide | (simp; done) | (simp; omega) | first | omega | (show (0 + 3 : Nat) < 3 + 1; decide)) | (apply Ab.Get.mk; first | rfl | first | rfl) | (apply Ab.Nm.mk; first | first | exact Eq.trans (congrArg (fun z => List.take _ (List.drop (z * 3) cs)) (Int.toNat_natCast i)) hE | exact (show ((ec cut).drop 0).take 3 = ec cut from rfl) | exact nrm_) | (apply Xg.s; constructor) | (apply Ab.asm; assumption) | rfl | infer_instance | decide))
        exact ⟨rfl, by exact ev_, by exact ev_, by exact ev_, by exact ev_, by exact ev_, F3, T3.mono (by omega), hB⟩
      · rw [decide_eq_true hcl] at e13
        have c18 := side18 (e := cut) (a := a) (o := N + 4) (h.fr F3) (Good.node hg) hn (T3.none (by omega))
        obtain ⟨s5, hs5⟩ : ∃ s5, s5 = s4.set (N + 4) (.cells true 1 (ints (side (rm l cut) a))) := ⟨_, rfl⟩
        have F5 : Fr s5 s [] := by rw [hs5]; exact Fr.new (hT.free (by omega)) F3
        have T5 : Top (N + 5) s5 := by rw [hs5]; exact (T3.mono (by omega) : Top (N + 4) s4).new
        have w1 : NA s5 (.slice (some ⟨N + 2, 0, none⟩) (side (rm l cut) a).length (side (rm l cut) a).length) (some (N + 2)) (side (rm l cut) a) := by rw [hs5]; exact NA.own (At.miss (by omega) aS)
        have w2 : NA s5 (.slice (some ⟨N + 4, 0, none⟩) (side (rm l cut) a).length (side (rm l cut) a).length) (some (N + 4)) (side (rm l cut) a) := by rw [hs5]; exact NA.own At.hit
        have hl64 : (side (rm l cut) a).length ≤ 64 := lkN_len
        have c17 := ints17 w1 w2 (by omega) (by omega)
        rw [decide_eq_true rfl] at c17
        have hB5 : BelF l root a (N + 3) s5 dv df := by
          rcases hB with h | h | ⟨h1, h2, h3, h4, h5⟩
          · exact .inl h
          · exact .inr (.inl h)
          · exact .inr (.inr ⟨h1, h2, h3, h4, by rw [hs5]; exact At.miss (by omega) h5⟩)
        rw [hs5] at c17
        (repeat' (first | (apply Ab.K.ev; exact ev_) | (apply Ab.K.aops; first | (apply Xg.s; constructor) | (apply Ab.S.guardU; (case hd => rfl); (case hb => (exact ev_; done))) | apply Ab.S.guardG) | (apply Ab.K.aop; first | (apply Og.s; constructor)) | (apply Ab.K.gk; first | (apply Xg.s; constructor) | (apply Ab.gY; case hw => assumption) | (apply Ab.gNT; case hw => assumption) | (apply Ab.gNF; case hw => assumption) | ((first | apply Ab.gD | apply Ab.gDN); all_goals (intro _ _; (first | contradiction | (exfalso; omega) | skip)))) | (apply Ab.K.awp; first | (apply Xg.s; constructor)) | (apply Ab.K.at_; exact at_) | (apply Ab.K.acall; first | assumption | first | exact c8 | exact c18 | exact c17) | (apply Ab.Rg.mk; omega) | (apply Ab.Lt.mk; first | decide | (simp; done) | (simp; omega) | first | omega | (show (0 + 3 : Nat) < 3 + 1; decide)) | (apply Ab.Get.mk; first | rfl | first | rfl) | (apply Ab.Nm.mk; first | first | exact Eq.trans (congrArg (fun z => List.take _ (List.drop (z * 3) cs)) (Int.toNat_natCast i)) hE | exact (show ((ec cut).drop 0).take 3 = ec cut from rfl) | exact nrm_) | (apply Xg.s; constructor) | (apply Ab.asm; assumption) | rfl | infer_instance | decide))
        rw [← hs5]
        exact ⟨rfl, by exact ev_, by exact ev_, by exact ev_, by exact ev_, by exact ev_, F5, T5, hB5⟩
    clear e0 e4 e7 e8 e9 e10 e11 e12 e13 e14 hB F3 T3 hS c8
    rintro tm s5 ⟨e0, e7, e8, e11, e12, F5, T5, hB⟩
    have c15 : ACall Try.prog 15 [.int .i64 root] s5 (.bool (decide (TP.Node root))) s5 := node15
    have c9 := linked9 (a := root) (b := a) (h.fr F5) (Good.node hg) (by omega)
    rw [← sOk_wOk hso] at c15
    rcases hB with ⟨h1, rfl, rfl⟩ | ⟨h1, h2, rfl, rfl⟩ | ⟨h1, h2, rfl, rfl, aB⟩
    · rw [h1] at c15
      (repeat' (first | (apply Ab.K.ev; exact ev_) | (apply Ab.K.aops; first | (apply Xg.s; constructor) | (apply Ab.S.guardU; (case hd => rfl); (case hb => (exact ev_; done))) | apply Ab.S.guardG) | (apply Ab.K.aop; first | (apply Og.s; constructor)) | (apply Ab.K.gk; first | (apply Xg.s; constructor) | (apply Ab.gY; case hw => assumption) | (apply Ab.gNT; case hw => assumption) | (apply Ab.gNF; case hw => assumption) | ((first | apply Ab.gD | apply Ab.gDN); all_goals (intro _ _; (first | contradiction | (exfalso; omega) | skip)))) | (apply Ab.K.awp; first | (apply Xg.s; constructor)) | (apply Ab.K.at_; exact at_) | (apply Ab.K.acall; first | assumption | first | exact c15 | exact aw _) | (apply Ab.Rg.mk; omega) | (apply Ab.Lt.mk; first | decide | (simp; done) | (simp; omega) | first | omega | (show (0 + 3 : Nat) < 3 + 1; decide)) | (apply Ab.Get.mk; first | rfl | first | rfl) | (apply Ab.Nm.mk; first | first | exact Eq.trans (congrArg (fun z => List.take _ (List.drop (z * 3) cs)) (Int.toNat_natCast i)) hE | exact (show ((ec cut).drop 0).take 3 = ec cut from rfl) | exact nrm_) | (apply Xg.s; constructor) | (apply Ab.asm; assumption) | rfl | infer_instance | decide))
      all_goals ((first | apply RetQ.ret | apply RetQ.normal); (case he => exact evr_); (case hg => rfl))
      all_goals first | rfl | exact Keeps.fr F5 (plR.nm rfl)
    · rw [h1] at c15
      rw [h2] at c9
      (repeat' (first | (apply Ab.K.ev; exact ev_) | (apply Ab.K.aops; first | (apply Xg.s; constructor) | (apply Ab.S.guardU; (case hd => rfl); (case hb => (exact ev_; done))) | apply Ab.S.guardG) | (apply Ab.K.aop; first | (apply Og.s; constructor)) | (apply Ab.K.gk; first | (apply Xg.s; constructor) | (apply Ab.gY; case hw => assumption) | (apply Ab.gNT; case hw => assumption) | (apply Ab.gNF; case hw => assumption) | ((first | apply Ab.gD | apply Ab.gDN); all_goals (intro _ _; (first | contradiction | (exfalso; omega) | skip)))) | (apply Ab.K.awp; first | (apply Xg.s; constructor)) | (apply Ab.K.at_; exact at_) | (apply Ab.K.acall; first | assumption | first | exact c15 | exact c9 | exact aw _) | (apply Ab.Rg.mk; omega) | (apply Ab.Lt.mk; first | decide | (simp; done) | (simp; omega) | first | omega | (show (0 + 3 : Nat) < 3 + 1; decide)) | (apply Ab.Get.mk; first | rfl | first | rfl) | (apply Ab.Nm.mk; first | first | exact Eq.trans (congrArg (fun z => List.take _ (List.drop (z * 3) cs)) (Int.toNat_natCast i)) hE | exact (show ((ec cut).drop 0).take 3 = ec cut from rfl) | exact nrm_) | (apply Xg.s; constructor) | (apply Ab.asm; assumption) | rfl | infer_instance | decide))
      all_goals ((first | apply RetQ.ret | apply RetQ.normal); (case he => exact evr_); (case hg => rfl))
      all_goals first | rfl | exact Keeps.fr F5 (plR.nm rfl)
    · rw [h1] at c15
      rw [h2] at c9
      obtain ⟨_, _, _, hr⟩ := wOk_iff.1 h1
      have c19 := below19 (root := root) (a := a) (o := N + 5) (h.fr F5) hg (hf.cut hg.2.nodup) hr hn (T5.none (by omega))
      have hl64 : (bel l root a).length ≤ 64 := lkN_len
      have w1 : NA (s5.set (N + 5) (.cells true 1 (ints (bel l root a)))) (.slice (some ⟨N + 3, 0, none⟩) (bel l root a).length (bel l root a).length) (some (N + 3)) (bel l root a) := NA.own (At.miss (by omega) aB)
      have w2 : NA (s5.set (N + 5) (.cells true 1 (ints (bel l root a)))) (.slice (some ⟨N + 5, 0, none⟩) (bel l root a).length (bel l root a).length) (some (N + 5)) (bel l root a) := NA.own At.hit
      have c17 := ints17 w1 w2 (by omega) (by omega)
      rw [decide_eq_true rfl] at c17
      (repeat' (first | (apply Ab.K.ev; exact ev_) | (apply Ab.K.aops; first | (apply Xg.s; constructor) | (apply Ab.S.guardU; (case hd => rfl); (case hb => (exact ev_; done))) | apply Ab.S.guardG) | (apply Ab.K.aop; first | (apply Og.s; constructor)) | (apply Ab.K.gk; first | (apply Xg.s; constructor) | (apply Ab.gY; case hw => assumption) | (apply Ab.gNT; case hw => assumption) | (apply Ab.gNF; case hw => assumption) | ((first | apply Ab.gD | apply Ab.gDN); all_goals (intro _ _; (first | contradiction | (exfalso; omega) | skip)))) | (apply Ab.K.awp; first | (apply Xg.s; constructor)) | (apply Ab.K.at_; exact at_) | (apply Ab.K.acall; first | assumption | first | exact c15 | exact c9 | exact c19 | exact c17 | exact aw _) | (apply Ab.Rg.mk; omega) | (apply Ab.Lt.mk; first | decide | (simp; done) | (simp; omega) | first | omega | (show (0 + 3 : Nat) < 3 + 1; decide)) | (apply Ab.Get.mk; first | rfl | first | rfl) | (apply Ab.Nm.mk; first | first | exact Eq.trans (congrArg (fun z => List.take _ (List.drop (z * 3) cs)) (Int.toNat_natCast i)) hE | exact (show ((ec cut).drop 0).take 3 = ec cut from rfl) | exact nrm_) | (apply Xg.s; constructor) | (apply Ab.asm; assumption) | rfl | infer_instance | decide))
      all_goals ((first | apply RetQ.ret | apply RetQ.normal); (case he => exact evr_); (case hg => rfl))
      all_goals first | rfl | exact Keeps.fr (Fr.new (hT.free (by omega)) F5) (plR.nm rfl)
end Go.Proofs.Ytnbgeodignljfaa
