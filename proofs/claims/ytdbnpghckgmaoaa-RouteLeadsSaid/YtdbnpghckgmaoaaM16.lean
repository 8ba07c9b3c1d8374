/- texts of this claim, one behind the other: VB. -/
import Derived.Test.YtdbnpghckgmaoaaM14

/- views: which may be, by the document and by the program. -/
namespace Go.Proofs.Ytdbnpghckgmaoaa
set_option linter.unusedVariables false
set_option linter.unusedSimpArgs false
set_option linter.unusedSectionVars false
open Go.RowKit Ab TP VP
attribute [local irreducible] AOps AOpsD AOp AWp put nargs AHeap.set At Free ACall ACallE thenQ blockQ roundQ RetQ RetE Src

noncomputable def mvB (nodes : List Int) (L : List Kn) : Bool := open Classical in decide (MayV nodes L)
theorem mvB_iff {nodes : List Int} {L : List Kn} : mvB nodes L = true ↔ MayV nodes L := by simp [mvB]
theorem mvB_no {nodes : List Int} {L : List Kn} (h : ¬ MayV nodes L) : mvB nodes L = false := by
  cases hh : mvB nodes L with
  | false => rfl
  | true => exact absurd (mvB_iff.1 hh) h
theorem ok_not {nodes : List Int} {k : Kn} (h : ¬ k.ok nodes) : k.node ∉ nodes ∨ (k.node ∈ nodes ∧ ¬ TP.Node k.peer) ∨ (k.node ∈ nodes ∧ TP.Node k.peer ∧ k.node = k.peer) ∨ (k.node ∈ nodes ∧ TP.Node k.peer ∧ ¬ k.node = k.peer ∧ k.w < 0) ∨ (k.node ∈ nodes ∧ TP.Node k.peer ∧ ¬ k.node = k.peer ∧ 0 ≤ k.w ∧ 2147483647 < k.w) ∨ (k.node ∈ nodes ∧ TP.Node k.peer ∧ ¬ k.node = k.peer ∧ 0 ≤ k.w ∧ k.w ≤ 2147483647 ∧ k.ss < 1) ∨ (k.node ∈ nodes ∧ TP.Node k.peer ∧ ¬ k.node = k.peer ∧ 0 ≤ k.w ∧ k.w ≤ 2147483647 ∧ 1 ≤ k.ss ∧ 2147483647 < k.ss) := by
  unfold Kn.ok at h
  by_cases h1 : k.node ∈ nodes
  · by_cases h2 : TP.Node k.peer
    · by_cases h3 : k.node = k.peer
      · exact .inr (.inr (.inl ⟨h1, h2, h3⟩))
      · have : ¬ (0 ≤ k.w ∧ k.w ≤ 2147483647 ∧ 1 ≤ k.ss ∧ k.ss ≤ 2147483647) := fun e => h ⟨h1, h2, h3, e.1, e.2.1, e.2.2.1, e.2.2.2⟩
        have h4 : k.w < 0 ∨ (0 ≤ k.w ∧ 2147483647 < k.w) ∨ (0 ≤ k.w ∧ k.w ≤ 2147483647 ∧ k.ss < 1) ∨ (0 ≤ k.w ∧ k.w ≤ 2147483647 ∧ 1 ≤ k.ss ∧ 2147483647 < k.ss) := by omega
        rcases h4 with h4 | h4 | h4 | h4
        · exact .inr (.inr (.inr (.inl ⟨h1, h2, h3, h4⟩)))
        · exact .inr (.inr (.inr (.inr (.inl ⟨h1, h2, h3, h4⟩))))
        · exact .inr (.inr (.inr (.inr (.inr (.inl ⟨h1, h2, h3, h4⟩)))))
        · exact .inr (.inr (.inr (.inr (.inr (.inr ⟨h1, h2, h3, h4⟩)))))
    · exact .inr (.inl ⟨h1, h2⟩)
  · exact .inl h1
/-- So far the nodes may be. -/
def NP (nodes : List Int) (i : Nat) : Prop := (∀ x ∈ nodes.take i, TP.Node x) ∧ (nodes.take i).Pairwise (· < ·)
theorem NP.zero {nodes : List Int} : NP nodes 0 := ⟨by simp, by simp⟩
theorem NP.all {nodes : List Int} {i : Nat} (h : NP nodes i) (hi : nodes.length ≤ i) : NOk nodes := by
  unfold NP at h; rwa [List.take_of_length_le hi] at h
theorem NP.of {nodes : List Int} (h : NOk nodes) (i : Nat) : NP nodes i := ⟨fun x hx => h.1 x (List.mem_of_mem_take hx), h.2.sublist (List.take_sublist _ _)⟩
theorem NP.next {nodes : List Int} {i : Nat} {x : Int} (h : NP nodes i) (hx : nodes[i]? = some x) : NP nodes (i + 1) ↔ TP.Node x ∧ (i = 0 ∨ ∃ y, nodes[i - 1]? = some y ∧ y < x) := by
  have htk : nodes.take (i + 1) = nodes.take i ++ [x] := by rw [List.take_add_one, hx]; rfl
  unfold NP
  rw [pw_snoc (R := fun a b : Int => a < b) (fun a b c h1 h2 => by omega) h.2 hx]
  refine and_congr_left fun _ => ⟨fun h1 => h1 x (by rw [htk]; simp), fun h1 y hy => ?_⟩
  rw [htk, List.mem_append, List.mem_singleton] at hy
  rcases hy with hy | rfl
  · exact h.1 y hy
  · exact h1
/-- So far the links may be. -/
def LP (nodes : List Int) (L : List Kn) (i : Nat) : Prop := (∀ k ∈ L.take i, k.ok nodes) ∧ (L.take i).Pairwise VP.ahead
theorem LP.zero {nodes : List Int} {L : List Kn} : LP nodes L 0 := ⟨by simp, by simp⟩
theorem LP.all {nodes : List Int} {L : List Kn} {i : Nat} (h : LP nodes L i) (hi : L.length ≤ i) : LOk nodes L := by
  unfold LP at h; rwa [List.take_of_length_le hi] at h
theorem LP.of {nodes : List Int} {L : List Kn} (h : LOk nodes L) (i : Nat) : LP nodes L i := ⟨fun x hx => h.1 x (List.mem_of_mem_take hx), h.2.sublist (List.take_sublist _ _)⟩
theorem LP.next {nodes : List Int} {L : List Kn} {i : Nat} {x : Kn} (h : LP nodes L i) (hx : L[i]? = some x) : LP nodes L (i + 1) ↔ x.ok nodes ∧ (i = 0 ∨ ∃ y, L[i - 1]? = some y ∧ VP.ahead y x) := by
  have htk : L.take (i + 1) = L.take i ++ [x] := by rw [List.take_add_one, hx]; rfl
  unfold LP
  rw [pw_snoc (R := VP.ahead) (fun a b c h1 h2 => ahead_trans h1 h2) h.2 hx]
  refine and_congr_left fun _ => ⟨fun h1 => h1 x (by rw [htk]; simp), fun h1 y hy => ?_⟩
  rw [htk, List.mem_append, List.mem_singleton] at hy
  rcases hy with hy | rfl
  · exact h.1 y hy
  · exact h1
set_option maxHeartbeats 4000000 in
theorem may09 {s : AHeap} {A B : Option Addr} {n c m d : Nat} {on ol : Option Nat} {nodes : List Int} {L : List Kn} (hN : NA s (.slice A n c) on nodes) (hL : KA s (.slice B m d) ol L) (hn : n ≤ 100000) (hm : m ≤ 100000) :
    ACall Try.prog 26 [.agg #[.slice A n c, .slice B m d]] s (.bool (mvB nodes L)) s := by
  have hnl : n = nodes.length := by obtain ⟨_, _, e⟩ := hN.isl; injection e
  have hml : m = L.length := by obtain ⟨_, _, e⟩ := hL.isl; injection e
  refine ACall.make Try.func26 rfl (by kernel_rfl) (by decide) rfl (fun N hN0 => ?_)
  have hT : Top N s := hN0
  (repeat' (first | (apply Ab.K.ev; exact ev_) | (apply Ab.K.aops; first | (apply Xg.s; constructor) | (apply Ab.S.guardU; (case hd => rfl); (case hb => (exact ev_; done))) | apply Ab.S.guardG) | (apply Ab.K.aop; first | (apply Ab.O.boxA (l := [.slice A n c, .slice B m d]) N; (case hx => exact ev_); (case hid => exact hT.free (Nat.le_refl _))) | (apply Og.s; constructor)) | (apply Ab.K.gk; first | (apply Xg.s; constructor) | (apply Ab.gY; case hw => assumption) | (apply Ab.gNT; case hw => assumption) | (apply Ab.gNF; case hw => assumption) | ((first | apply Ab.gD | apply Ab.gDN); all_goals (intro _ _; (first | contradiction | (exfalso; omega) | skip)))) | (apply Ab.K.awp; first | (apply Xg.s; constructor)) | (apply Ab.K.at_; exact at_) | (apply Ab.K.acall; first | assumption | fail) | (apply Ab.Rg.mk; omega) | (apply Ab.Lt.mk; first | decide | (simp; done) | (simp; omega) | fail) | (apply Ab.Get.mk; first | rfl | fail) | (apply Ab.Nm.mk; first | exact nrm_) | (apply Xg.s; constructor) | (apply Ab.asm; assumption) | rfl | infer_instance | decide))
  refine AWp.loop (fun kk tm s1 => ∃ i : Nat, Ev tm (.tmp 1) (.pointer (some ⟨N, 0, none⟩)) ∧ Ev tm (.tmp 3) (.int .i64 i) ∧ At s1 N (.cells true 1 [.slice A n c, .slice B m d]) ∧ Fr s1 s [] ∧ Top (N + 1) s1 ∧ NP nodes i ∧ i ≤ n ∧ kk = n - i) n ?_ ?_
  · exact ⟨0, by exact ev_, by exact ev_, by exact at_, by exact fr_, by exact top_, NP.zero, by omega, rfl⟩
  rintro kk tm s1 ⟨i, e1, e3, a1, F, T, P, hi, hkk⟩
  by_cases hin : i < n
  · obtain ⟨x, hx⟩ : ∃ x, nodes[i]? = some x := ⟨_, List.getElem?_eq_getElem (by omega)⟩
    have hnx := P.next hx
    obtain ⟨q, rw1, cs, rfl, _, _, hq, g0⟩ := (hN.fr F).elt hx
    have c22 : ACall Try.prog 22 [.int .i64 x] s1 (.bool (decide (TP.Node x))) s1 := node15


    by_cases hxn : TP.Node x
    · rw [decide_eq_true hxn] at c22
      by_cases hi0 : i = 0
      · have P1 := hnx.2 ⟨hxn, .inl hi0⟩
        (repeat' (first | (apply Ab.K.ev; exact ev_) | (apply Ab.K.aops; first | (apply Xg.s; constructor) | (apply Ab.S.guardU; (case hd => rfl); (case hb => (exact ev_; done))) | apply Ab.S.guardG) | (apply Ab.K.aop; first | (apply Og.s; constructor)) | (apply Ab.K.gk; first | (apply Xg.s; constructor) | (apply Ab.gY; case hw => assumption) | (apply Ab.gNT; case hw => assumption) | (apply Ab.gNF; case hw => assumption) | ((first | apply Ab.gD | apply Ab.gDN); all_goals (intro _ _; (first | contradiction | (exfalso; omega) | skip)))) | (apply Ab.K.aopsD; first | (apply Ab.D.q0t; (case hw => rfl); (case hot => rfl)) | (apply Ab.D.w1t; (case hw => rfl); (case hot => rfl)) | (apply Ab.D.q0; (case hw => rfl); intro _ _) | (apply Ab.D.w1n; (case hw => rfl); intro _ _) | (apply Ab.D.w2n; (case hw => rfl); intro _ _) | (apply Xg.s; constructor) | (apply Ab.D.guardU; (case hd => rfl); (case hb => (exact ev_; done))) | apply Ab.D.guardG) | exact ⟨rfl, rfl⟩ | (apply Ab.K.awp; first | (apply AWp.draw (id := 4) [[], [0], [], [0, 1, 2], [0, 1, 2, 3], [0, 1, 2, 3, 4], [0, 1, 2, 3, 4, 5], [0, 1, 2, 3, 4, 5, 6], [0, 1, 2, 3, 4, 5, 6, 7], [0, 1, 2, 3, 4, 5, 6, 7, 8], [0, 1, 2, 3, 4, 5, 6, 7, 8, 9], [0, 1, 2, 3, 4, 5, 6, 7, 8, 9, 10], [0, 1, 2, 3, 4, 5, 6, 7, 8, 9, 10, 11], [0, 1, 2, 3, 4, 5, 6, 7, 8, 9, 10], [0, 1, 2, 3, 4, 5, 6, 7, 8, 9, 10, 13], [0, 1, 2, 3, 4, 5, 6, 7, 8, 9, 10, 11, 12, 13, 14], [0, 1, 2, 3, 4, 5, 6, 7, 8, 9, 10, 11, 12, 13, 14, 15], [0, 1, 2, 3, 4, 5, 6, 7, 8, 9, 10], [0, 1, 2, 3, 4, 5, 6, 7, 8, 9, 10, 17], [0, 1, 2, 3, 4, 5, 6, 7, 8, 9, 10], [0, 1, 2, 3, 4, 5, 6, 7, 8, 9, 10, 17, 18, 19], [0, 1, 2, 3, 4, 5, 6, 7, 8, 9, 10, 17, 18, 19, 20], [0, 1, 2, 3, 4, 5, 6, 7, 8, 9, 10, 11, 12, 13, 14, 15, 16, 17, 18, 19, 20, 21], [0, 1, 2, 3, 4, 5, 6, 7, 8, 9, 10, 11, 12, 13, 14, 15, 16, 17, 18, 19, 20, 21, 22], [0, 1, 2, 3, 4, 5, 6, 7, 8, 9, 10, 11, 12, 13, 14, 15, 16, 17, 18, 19, 20, 21, 22, 23]] [] (by kernel_rfl) (by kernel_rfl) (by simp [apartW, unordB, cC] <;> omega)) | (apply Xg.s; constructor)) | (apply Ab.K.at_; exact at_) | (apply Ab.K.acall; first | assumption | exact c22) | (apply Ab.Rg.mk; omega) | (apply Ab.Lt.mk; first | decide | (simp; done) | (simp; omega) | fail) | (apply Ab.Get.mk; first | rfl | first | rfl | (rw [Int.toNat_natCast]; exact g0) | (rw [show ((i : Int) - 1).toNat = i - 1 from by omega]; exact g1)) | (apply Ab.Nm.mk; first | exact nrm_) | (apply Xg.s; constructor) | (apply Ab.asm; assumption) | rfl | infer_instance | decide))
        exact X.roundN (n - (i + 1)) (by omega) ⟨i + 1, by exact ev_, by exact ev_, a1, F, T, P1, by omega, rfl⟩
      · obtain ⟨y, hy⟩ : ∃ y, nodes[i - 1]? = some y := ⟨_, List.getElem?_eq_getElem (by omega)⟩
        obtain ⟨q2, rw2, cs2, hqq, _, _, hq2, g1⟩ := (hN.fr F).elt hy
        obtain rfl : q = q2 := by have := Option.some.inj hqq; injection this
        have e2 := hq.eq.symm.trans hq2.eq
        injection e2 with e2
        injection e2 with _ _ e2
        subst e2
        by_cases hyx : y < x
        · have P1 := hnx.2 ⟨hxn, .inr ⟨y, hy, hyx⟩⟩
          (repeat' (first | (apply Ab.K.ev; exact ev_) | (apply Ab.K.aops; first | (apply Xg.s; constructor) | (apply Ab.S.guardU; (case hd => rfl); (case hb => (exact ev_; done))) | apply Ab.S.guardG) | (apply Ab.K.aop; first | (apply Og.s; constructor)) | (apply Ab.K.gk; first | (apply Xg.s; constructor) | (apply Ab.gY; case hw => assumption) | (apply Ab.gNT; case hw => assumption) | (apply Ab.gNF; case hw => assumption) | ((first | apply Ab.gD | apply Ab.gDN); all_goals (intro _ _; (first | contradiction | (exfalso; omega) | skip)))) | (apply Ab.K.aopsD; first | (apply Ab.D.q0t; (case hw => rfl); (case hot => rfl)) | (apply Ab.D.w1t; (case hw => rfl); (case hot => rfl)) | (apply Ab.D.q0; (case hw => rfl); intro _ _) | (apply Ab.D.w1n; (case hw => rfl); intro _ _) | (apply Ab.D.w2n; (case hw => rfl); intro _ _) | (apply Xg.s; constructor) | (apply Ab.D.guardU; (case hd => rfl); (case hb => (exact ev_; done))) | apply Ab.D.guardG) | exact ⟨rfl, rfl⟩ | (apply Ab.K.awp; first | (apply AWp.draw (id := 4) [[], [0], [], [0, 1, 2], [0, 1, 2, 3], [0, 1, 2, 3, 4], [0, 1, 2, 3, 4, 5], [0, 1, 2, 3, 4, 5, 6], [0, 1, 2, 3, 4, 5, 6, 7], [0, 1, 2, 3, 4, 5, 6, 7, 8], [0, 1, 2, 3, 4, 5, 6, 7, 8, 9], [0, 1, 2, 3, 4, 5, 6, 7, 8, 9, 10], [0, 1, 2, 3, 4, 5, 6, 7, 8, 9, 10, 11], [0, 1, 2, 3, 4, 5, 6, 7, 8, 9, 10], [0, 1, 2, 3, 4, 5, 6, 7, 8, 9, 10, 13], [0, 1, 2, 3, 4, 5, 6, 7, 8, 9, 10, 11, 12, 13, 14], [0, 1, 2, 3, 4, 5, 6, 7, 8, 9, 10, 11, 12, 13, 14, 15], [0, 1, 2, 3, 4, 5, 6, 7, 8, 9, 10], [0, 1, 2, 3, 4, 5, 6, 7, 8, 9, 10, 17], [0, 1, 2, 3, 4, 5, 6, 7, 8, 9, 10], [0, 1, 2, 3, 4, 5, 6, 7, 8, 9, 10, 17, 18, 19], [0, 1, 2, 3, 4, 5, 6, 7, 8, 9, 10, 17, 18, 19, 20], [0, 1, 2, 3, 4, 5, 6, 7, 8, 9, 10, 11, 12, 13, 14, 15, 16, 17, 18, 19, 20, 21], [0, 1, 2, 3, 4, 5, 6, 7, 8, 9, 10, 11, 12, 13, 14, 15, 16, 17, 18, 19, 20, 21, 22], [0, 1, 2, 3, 4, 5, 6, 7, 8, 9, 10, 11, 12, 13, 14, 15, 16, 17, 18, 19, 20, 21, 22, 23]] [] (by kernel_rfl) (by kernel_rfl) (by simp [apartW, unordB, cC] <;> omega)) | (apply Xg.s; constructor)) | (apply Ab.K.at_; exact at_) | (apply Ab.K.acall; first | assumption | exact c22) | (apply Ab.Rg.mk; omega) | (apply Ab.Lt.mk; first | decide | (simp; done) | (simp; omega) | fail) | (apply Ab.Get.mk; first | rfl | first | rfl | (rw [Int.toNat_natCast]; exact g0) | (rw [show ((i : Int) - 1).toNat = i - 1 from by omega]; exact g1)) | (apply Ab.Nm.mk; first | exact nrm_) | (apply Xg.s; constructor) | (apply Ab.asm; assumption) | rfl | infer_instance | decide))
          exact X.roundN (n - (i + 1)) (by omega) ⟨i + 1, by exact ev_, by exact ev_, a1, F, T, P1, by omega, rfl⟩
        · have hno : mvB nodes L = false := mvB_no fun h => by
            rcases (hnx.1 (NP.of h.1 _)).2 with h1 | ⟨y', h1, h2⟩
            · exact hi0 h1
            · rw [hy] at h1; obtain rfl := Option.some.inj h1; exact hyx h2
          rw [hno]
          (repeat' (first | (apply Ab.K.ev; exact ev_) | (apply Ab.K.aops; first | (apply Xg.s; constructor) | (apply Ab.S.guardU; (case hd => rfl); (case hb => (exact ev_; done))) | apply Ab.S.guardG) | (apply Ab.K.aop; first | (apply Og.s; constructor)) | (apply Ab.K.gk; first | (apply Xg.s; constructor) | (apply Ab.gY; case hw => assumption) | (apply Ab.gNT; case hw => assumption) | (apply Ab.gNF; case hw => assumption) | ((first | apply Ab.gD | apply Ab.gDN); all_goals (intro _ _; (first | contradiction | (exfalso; omega) | skip)))) | (apply Ab.K.aopsD; first | (apply Ab.D.q0t; (case hw => rfl); (case hot => rfl)) | (apply Ab.D.w1t; (case hw => rfl); (case hot => rfl)) | (apply Ab.D.q0; (case hw => rfl); intro _ _) | (apply Ab.D.w1n; (case hw => rfl); intro _ _) | (apply Ab.D.w2n; (case hw => rfl); intro _ _) | (apply Xg.s; constructor) | (apply Ab.D.guardU; (case hd => rfl); (case hb => (exact ev_; done))) | apply Ab.D.guardG) | exact ⟨rfl, rfl⟩ | (apply Ab.K.awp; first | (apply AWp.draw (id := 4) [[], [0], [], [0, 1, 2], [0, 1, 2, 3], [0, 1, 2, 3, 4], [0, 1, 2, 3, 4, 5], [0, 1, 2, 3, 4, 5, 6], [0, 1, 2, 3, 4, 5, 6, 7], [0, 1, 2, 3, 4, 5, 6, 7, 8], [0, 1, 2, 3, 4, 5, 6, 7, 8, 9], [0, 1, 2, 3, 4, 5, 6, 7, 8, 9, 10], [0, 1, 2, 3, 4, 5, 6, 7, 8, 9, 10, 11], [0, 1, 2, 3, 4, 5, 6, 7, 8, 9, 10], [0, 1, 2, 3, 4, 5, 6, 7, 8, 9, 10, 13], [0, 1, 2, 3, 4, 5, 6, 7, 8, 9, 10, 11, 12, 13, 14], [0, 1, 2, 3, 4, 5, 6, 7, 8, 9, 10, 11, 12, 13, 14, 15], [0, 1, 2, 3, 4, 5, 6, 7, 8, 9, 10], [0, 1, 2, 3, 4, 5, 6, 7, 8, 9, 10, 17], [0, 1, 2, 3, 4, 5, 6, 7, 8, 9, 10], [0, 1, 2, 3, 4, 5, 6, 7, 8, 9, 10, 17, 18, 19], [0, 1, 2, 3, 4, 5, 6, 7, 8, 9, 10, 17, 18, 19, 20], [0, 1, 2, 3, 4, 5, 6, 7, 8, 9, 10, 11, 12, 13, 14, 15, 16, 17, 18, 19, 20, 21], [0, 1, 2, 3, 4, 5, 6, 7, 8, 9, 10, 11, 12, 13, 14, 15, 16, 17, 18, 19, 20, 21, 22], [0, 1, 2, 3, 4, 5, 6, 7, 8, 9, 10, 11, 12, 13, 14, 15, 16, 17, 18, 19, 20, 21, 22, 23]] [] (by kernel_rfl) (by kernel_rfl) (by simp [apartW, unordB, cC] <;> omega)) | (apply Xg.s; constructor)) | (apply Ab.K.at_; exact at_) | (apply Ab.K.acall; first | assumption | exact c22) | (apply Ab.Rg.mk; omega) | (apply Ab.Lt.mk; first | decide | (simp; done) | (simp; omega) | fail) | (apply Ab.Get.mk; first | rfl | first | rfl | (rw [Int.toNat_natCast]; exact g0) | (rw [show ((i : Int) - 1).toNat = i - 1 from by omega]; exact g1)) | (apply Ab.Nm.mk; first | exact nrm_) | (apply Xg.s; constructor) | (apply Ab.asm; assumption) | rfl | infer_instance | decide))
          all_goals ((first | apply RetQ.ret | apply RetQ.normal); (case he => exact evr_); (case hg => rfl))
          all_goals first | rfl | exact Keeps.fr F (plR.nm rfl)
    · have hno : mvB nodes L = false := mvB_no fun h => hxn (hnx.1 (NP.of h.1 _)).1
      rw [hno]
      rw [decide_eq_false hxn] at c22
      (repeat' (first | (apply Ab.K.ev; exact ev_) | (apply Ab.K.aops; first | (apply Xg.s; constructor) | (apply Ab.S.guardU; (case hd => rfl); (case hb => (exact ev_; done))) | apply Ab.S.guardG) | (apply Ab.K.aop; first | (apply Og.s; constructor)) | (apply Ab.K.gk; first | (apply Xg.s; constructor) | (apply Ab.gY; case hw => assumption) | (apply Ab.gNT; case hw => assumption) | (apply Ab.gNF; case hw => assumption) | ((first | apply Ab.gD | apply Ab.gDN); all_goals (intro _ _; (first | contradiction | (exfalso; omega) | skip)))) | (apply Ab.K.aopsD; first | (apply Ab.D.q0t; (case hw => rfl); (case hot => rfl)) | (apply Ab.D.w1t; (case hw => rfl); (case hot => rfl)) | (apply Ab.D.q0; (case hw => rfl); intro _ _) | (apply Ab.D.w1n; (case hw => rfl); intro _ _) | (apply Ab.D.w2n; (case hw => rfl); intro _ _) | (apply Xg.s; constructor) | (apply Ab.D.guardU; (case hd => rfl); (case hb => (exact ev_; done))) | apply Ab.D.guardG) | exact ⟨rfl, rfl⟩ | (apply Ab.K.awp; first | (apply AWp.draw (id := 4) [[], [0], [], [0, 1, 2], [0, 1, 2, 3], [0, 1, 2, 3, 4], [0, 1, 2, 3, 4, 5], [0, 1, 2, 3, 4, 5, 6], [0, 1, 2, 3, 4, 5, 6, 7], [0, 1, 2, 3, 4, 5, 6, 7, 8], [0, 1, 2, 3, 4, 5, 6, 7, 8, 9], [0, 1, 2, 3, 4, 5, 6, 7, 8, 9, 10], [0, 1, 2, 3, 4, 5, 6, 7, 8, 9, 10, 11], [0, 1, 2, 3, 4, 5, 6, 7, 8, 9, 10], [0, 1, 2, 3, 4, 5, 6, 7, 8, 9, 10, 13], [0, 1, 2, 3, 4, 5, 6, 7, 8, 9, 10, 11, 12, 13, 14], [0, 1, 2, 3, 4, 5, 6, 7, 8, 9, 10, 11, 12, 13, 14, 15], [0, 1, 2, 3, 4, 5, 6, 7, 8, 9, 10], [0, 1, 2, 3, 4, 5, 6, 7, 8, 9, 10, 17], [0, 1, 2, 3, 4, 5, 6, 7, 8, 9, 10], [0, 1, 2, 3, 4, 5, 6, 7, 8, 9, 10, 17, 18, 19], [0, 1, 2, 3, 4, 5, 6, 7, 8, 9, 10, 17, 18, 19, 20], [0, 1, 2, 3, 4, 5, 6, 7, 8, 9, 10, 11, 12, 13, 14, 15, 16, 17, 18, 19, 20, 21], [0, 1, 2, 3, 4, 5, 6, 7, 8, 9, 10, 11, 12, 13, 14, 15, 16, 17, 18, 19, 20, 21, 22], [0, 1, 2, 3, 4, 5, 6, 7, 8, 9, 10, 11, 12, 13, 14, 15, 16, 17, 18, 19, 20, 21, 22, 23]] [] (by kernel_rfl) (by kernel_rfl) (by simp [apartW, unordB, cC] <;> omega)) | (apply Xg.s; constructor)) | (apply Ab.K.at_; exact at_) | (apply Ab.K.acall; first | assumption | exact c22) | (apply Ab.Rg.mk; omega) | (apply Ab.Lt.mk; first | decide | (simp; done) | (simp; omega) | fail) | (apply Ab.Get.mk; first | rfl | first | rfl | (rw [Int.toNat_natCast]; exact g0) | (rw [show ((i : Int) - 1).toNat = i - 1 from by omega]; exact g1)) | (apply Ab.Nm.mk; first | exact nrm_) | (apply Xg.s; constructor) | (apply Ab.asm; assumption) | rfl | infer_instance | decide))
      all_goals ((first | apply RetQ.ret | apply RetQ.normal); (case he => exact evr_); (case hg => rfl))
      all_goals first | rfl | exact Keeps.fr F (plR.nm rfl)


  have hNO : NOk nodes := P.all (by omega)
  (repeat' (first | (apply Ab.K.ev; exact ev_) | (apply Ab.K.aops; first | (apply Xg.s; constructor) | (apply Ab.S.guardU; (case hd => rfl); (case hb => (exact ev_; done))) | apply Ab.S.guardG) | (apply Ab.K.aop; first | (apply Og.s; constructor)) | (apply Ab.K.gk; first | (apply Xg.s; constructor) | (apply Ab.gY; case hw => assumption) | (apply Ab.gNT; case hw => assumption) | (apply Ab.gNF; case hw => assumption) | ((first | apply Ab.gD | apply Ab.gDN); all_goals (intro _ _; (first | contradiction | (exfalso; omega) | skip)))) | (apply Ab.K.awp; first | (apply Xg.s; constructor)) | (apply Ab.K.at_; exact at_) | (apply Ab.K.acall; first | assumption | fail) | (apply Ab.Rg.mk; omega) | (apply Ab.Lt.mk; first | decide | (simp; done) | (simp; omega) | fail) | (apply Ab.Get.mk; first | rfl | first | rfl) | (apply Ab.Nm.mk; first | exact nrm_) | (apply Xg.s; constructor) | (apply Ab.asm; assumption) | rfl | infer_instance | decide))
  clear P
  refine AWp.loop (fun kk tm s1 => ∃ i M : Nat, Ev tm (.tmp 1) (.pointer (some ⟨N, 0, none⟩)) ∧ Ev tm (.tmp 4) (.int .i64 i) ∧ At s1 N (.cells true 1 [.slice A n c, .slice B m d]) ∧ Fr s1 s [] ∧ Top M s1 ∧ N < M ∧ LP nodes L i ∧ i ≤ m ∧ kk = m - i) m ?_ ?_
  · exact ⟨0, N + 1, by exact ev_, by exact ev_, a1, F, T, by omega, LP.zero, by omega, rfl⟩
  clear a1 F T e1 e3
  rintro kk tm s1 ⟨i', M, e1, e4, a1, F, T, hNM, P, hi', hkk⟩
  by_cases hin' : i' < m
  · obtain ⟨x, hx⟩ : ∃ x, L[i']? = some x := ⟨_, List.getElem?_eq_getElem (by omega)⟩
    have hnx := P.next hx
    obtain ⟨q, rw1, cs, rfl, _, _, hq, hcs, hE, _⟩ := (hL.fr F).elt hx
    have hqM := T.lt hq
    obtain ⟨s2, hs2⟩ : ∃ s2, s2 = (s1.set M (.cells true 1 (kc ⟨0, 0, 0, 0, false⟩))).set M (.cells true 1 (kc x)) := ⟨_, rfl⟩
    have F2 : Fr s2 s [] := by rw [hs2, AHeap.set_set]; exact Fr.new (hT.free (by omega)) F
    have T2 : Top (M + 1) s2 := by rw [hs2, AHeap.set_set]; exact T.new
    have aM : At s2 M (.cells true 1 (kc x)) := by rw [hs2]; exact At.hit
    have a12 : At s2 N (.cells true 1 [.slice A n c, .slice (some ⟨q, 0, none⟩) m d]) := by rw [hs2]; exact at_
    have hq2 : At s2 q (.cells rw1 5 cs) := by rw [hs2]; exact at_
    have c41 := in09 (x := x.node) (hN.fr F2) (by omega)
    have c22 : ACall Try.prog 22 [.int .i64 x.peer] s2 (.bool (decide (TP.Node x.peer))) s2 := node15
    have hm5 := hE
    have c42 : ∀ p : Kn, ACall Try.prog 42 [.agg (kc p).toArray, .agg (kc x).toArray] s2 (.bool (decide (VP.ahead p x))) s2 := fun p => ahead09



    rw [hs2] at c41 c22 c42
    by_cases hok : x.ok nodes
    · obtain ⟨k1, k2, k3, k4, k5, k6, k7⟩ := hok
      rw [decide_eq_true k1] at c41
      rw [decide_eq_true k2] at c22
      by_cases hi0 : i' = 0
      · have P1 := hnx.2 ⟨⟨k1, k2, k3, k4, k5, k6, k7⟩, .inl hi0⟩
        (repeat' (first | (apply Ab.K.ev; exact ev_) | (apply Ab.K.aops; first | (apply Xg.s; constructor) | (apply Ab.S.guardU; (case hd => rfl); (case hb => (exact ev_; done))) | apply Ab.S.guardG) | (apply Ab.K.aop; first | (first | (apply Ab.O.allocA (l := kc ⟨0, 0, 0, 0, false⟩) M; (case hid => exact T.free (Nat.le_refl _)); (case hp => rfl)) | (apply Ab.O.storeAll; (case hz => rfl); (case hx => exact ev_); (case hy => exact ev_); (case hs => exact at_); (case hl => rfl); (case hc => rfl))) | (apply Og.s; constructor)) | (apply Ab.K.gk; first | (apply Xg.s; constructor) | (apply Ab.gY; case hw => assumption) | (apply Ab.gNT; case hw => assumption) | (apply Ab.gNF; case hw => assumption) | ((first | apply Ab.gD | apply Ab.gDN); all_goals (intro _ _; (first | contradiction | (exfalso; omega) | skip)))) | (apply Ab.K.aopsD; first | (apply Ab.D.q0t; (case hw => rfl); (case hot => rfl)) | (apply Ab.D.w1t; (case hw => rfl); (case hot => rfl)) | (apply Ab.D.q0; (case hw => rfl); intro _ _) | (apply Ab.D.w1n; (case hw => rfl); intro _ _) | (apply Ab.D.w2n; (case hw => rfl); intro _ _) | (apply Xg.s; constructor) | (apply Ab.D.guardU; (case hd => rfl); (case hb => (exact ev_; done))) | apply Ab.D.guardG) | exact ⟨rfl, rfl⟩ | (apply Ab.K.awp; first | (apply AWp.draw (id := 12) [[], [0], [0, 1], [0, 1, 2], [0, 1, 2, 3], [0, 1, 2], [0, 1, 2, 5], [0, 1, 2, 3, 4, 5, 6], [0, 1, 2, 3, 4, 5, 6, 7], [0, 1, 2], [0, 1, 2, 3, 4, 5, 6, 7, 8, 9], [0, 1, 2, 3, 4, 5, 6, 7, 8, 9, 10], [0, 1, 2, 3, 4, 5, 6, 7, 8, 9, 10, 11]] [] (by kernel_rfl) (by kernel_rfl) (by simp [apartW, unordB, cC] <;> omega)) | (apply Xg.s; constructor)) | (apply Ab.K.at_; exact at_) | (apply Ab.K.acall; first | assumption | first | exact c41 | exact c22 | exact c42 _) | (apply Ab.Rg.mk; omega) | (apply Ab.Lt.mk; first | decide | (simp; done) | (simp; omega) | first | omega | (show (0 + 5 : Nat) < 5 + 1; decide)) | (apply Ab.Get.mk; first | rfl | first | rfl) | (apply Ab.Nm.mk; first | first | exact Eq.trans (congrArg (fun z => List.take _ (List.drop (z * 5) cs)) (Int.toNat_natCast i')) hE | exact (show ((kc x).drop 0).take 5 = kc x from rfl) | exact Eq.trans (congrArg (fun z => List.take _ (List.drop (z * 5) cs)) (show ((i' : Int) - 1).toNat = i' - 1 from by omega)) hEy | exact nrm_) | (apply Xg.s; constructor) | (apply Ab.asm; assumption) | rfl | infer_instance | decide))
        rw [← hs2]
        exact X.roundN (m - (i' + 1)) (by omega) ⟨i' + 1, M + 1, by exact ev_, by exact ev_, a12, F2, T2, by omega, P1, by omega, rfl⟩
      · obtain ⟨y, hy⟩ : ∃ y, L[i' - 1]? = some y := ⟨_, List.getElem?_eq_getElem (by omega)⟩
        obtain ⟨q2, rw2, cs2, hqq, _, _, hq3, hcs2, hEy, _⟩ := (hL.fr F).elt hy
        obtain rfl : q = q2 := by have := Option.some.inj hqq; injection this
        have e2 := hq.eq.symm.trans hq3.eq
        injection e2 with e2
        injection e2 with _ _ e2
        subst e2
        have c42y := c42 y
        by_cases hyx : VP.ahead y x
        · have P1 := hnx.2 ⟨⟨k1, k2, k3, k4, k5, k6, k7⟩, .inr ⟨y, hy, hyx⟩⟩
          rw [decide_eq_true hyx] at c42y
          (repeat' (first | (apply Ab.K.ev; exact ev_) | (apply Ab.K.aops; first | (apply Xg.s; constructor) | (apply Ab.S.guardU; (case hd => rfl); (case hb => (exact ev_; done))) | apply Ab.S.guardG) | (apply Ab.K.aop; first | (first | (apply Ab.O.allocA (l := kc ⟨0, 0, 0, 0, false⟩) M; (case hid => exact T.free (Nat.le_refl _)); (case hp => rfl)) | (apply Ab.O.storeAll; (case hz => rfl); (case hx => exact ev_); (case hy => exact ev_); (case hs => exact at_); (case hl => rfl); (case hc => rfl))) | (apply Og.s; constructor)) | (apply Ab.K.gk; first | (apply Xg.s; constructor) | (apply Ab.gY; case hw => assumption) | (apply Ab.gNT; case hw => assumption) | (apply Ab.gNF; case hw => assumption) | ((first | apply Ab.gD | apply Ab.gDN); all_goals (intro _ _; (first | contradiction | (exfalso; omega) | skip)))) | (apply Ab.K.aopsD; first | (apply Ab.D.q0t; (case hw => rfl); (case hot => rfl)) | (apply Ab.D.w1t; (case hw => rfl); (case hot => rfl)) | (apply Ab.D.q0; (case hw => rfl); intro _ _) | (apply Ab.D.w1n; (case hw => rfl); intro _ _) | (apply Ab.D.w2n; (case hw => rfl); intro _ _) | (apply Xg.s; constructor) | (apply Ab.D.guardU; (case hd => rfl); (case hb => (exact ev_; done))) | apply Ab.D.guardG) | exact ⟨rfl, rfl⟩ | (apply Ab.K.awp; first | (apply AWp.draw (id := 12) [[], [0], [0, 1], [0, 1, 2], [0, 1, 2, 3], [0, 1, 2], [0, 1, 2, 5], [0, 1, 2, 3, 4, 5, 6], [0, 1, 2, 3, 4, 5, 6, 7], [0, 1, 2], [0, 1, 2, 3, 4, 5, 6, 7, 8, 9], [0, 1, 2, 3, 4, 5, 6, 7, 8, 9, 10], [0, 1, 2, 3, 4, 5, 6, 7, 8, 9, 10, 11]] [] (by kernel_rfl) (by kernel_rfl) (by simp [apartW, unordB, cC] <;> omega)) | (apply Xg.s; constructor)) | (apply Ab.K.at_; exact at_) | (apply Ab.K.acall; first | assumption | first | exact c41 | exact c22 | exact c42y) | (apply Ab.Rg.mk; omega) | (apply Ab.Lt.mk; first | decide | (simp; done) | (simp; omega) | first | omega | (show (0 + 5 : Nat) < 5 + 1; decide)) | (apply Ab.Get.mk; first | rfl | first | rfl) | (apply Ab.Nm.mk; first | first | exact Eq.trans (congrArg (fun z => List.take _ (List.drop (z * 5) cs)) (Int.toNat_natCast i')) hE | exact (show ((kc x).drop 0).take 5 = kc x from rfl) | exact Eq.trans (congrArg (fun z => List.take _ (List.drop (z * 5) cs)) (show ((i' : Int) - 1).toNat = i' - 1 from by omega)) hEy | exact nrm_) | (apply Xg.s; constructor) | (apply Ab.asm; assumption) | rfl | infer_instance | decide))
          rw [← hs2]
          exact X.roundN (m - (i' + 1)) (by omega) ⟨i' + 1, M + 1, by exact ev_, by exact ev_, a12, F2, T2, by omega, P1, by omega, rfl⟩
        · have hno : mvB nodes L = false := mvB_no fun h => by
            rcases (hnx.1 (LP.of h.2 _)).2 with h1 | ⟨y', h1, h2⟩
            · exact hi0 h1
            · rw [hy] at h1; obtain rfl := Option.some.inj h1; exact hyx h2
          rw [hno]
          rw [decide_eq_false hyx] at c42y
          (repeat' (first | (apply Ab.K.ev; exact ev_) | (apply Ab.K.aops; first | (apply Xg.s; constructor) | (apply Ab.S.guardU; (case hd => rfl); (case hb => (exact ev_; done))) | apply Ab.S.guardG) | (apply Ab.K.aop; first | (first | (apply Ab.O.allocA (l := kc ⟨0, 0, 0, 0, false⟩) M; (case hid => exact T.free (Nat.le_refl _)); (case hp => rfl)) | (apply Ab.O.storeAll; (case hz => rfl); (case hx => exact ev_); (case hy => exact ev_); (case hs => exact at_); (case hl => rfl); (case hc => rfl))) | (apply Og.s; constructor)) | (apply Ab.K.gk; first | (apply Xg.s; constructor) | (apply Ab.gY; case hw => assumption) | (apply Ab.gNT; case hw => assumption) | (apply Ab.gNF; case hw => assumption) | ((first | apply Ab.gD | apply Ab.gDN); all_goals (intro _ _; (first | contradiction | (exfalso; omega) | skip)))) | (apply Ab.K.aopsD; first | (apply Ab.D.q0t; (case hw => rfl); (case hot => rfl)) | (apply Ab.D.w1t; (case hw => rfl); (case hot => rfl)) | (apply Ab.D.q0; (case hw => rfl); intro _ _) | (apply Ab.D.w1n; (case hw => rfl); intro _ _) | (apply Ab.D.w2n; (case hw => rfl); intro _ _) | (apply Xg.s; constructor) | (apply Ab.D.guardU; (case hd => rfl); (case hb => (exact ev_; done))) | apply Ab.D.guardG) | exact ⟨rfl, rfl⟩ | (apply Ab.K.awp; first | (apply AWp.draw (id := 12) [[], [0], [0, 1], [0, 1, 2], [0, 1, 2, 3], [0, 1, 2], [0, 1, 2, 5], [0, 1, 2, 3, 4, 5, 6], [0, 1, 2, 3, 4, 5, 6, 7], [0, 1, 2], [0, 1, 2, 3, 4, 5, 6, 7, 8, 9], [0, 1, 2, 3, 4, 5, 6, 7, 8, 9, 10], [0, 1, 2, 3, 4, 5, 6, 7, 8, 9, 10, 11]] [] (by kernel_rfl) (by kernel_rfl) (by simp [apartW, unordB, cC] <;> omega)) | (apply Xg.s; constructor)) | (apply Ab.K.at_; exact at_) | (apply Ab.K.acall; first | assumption | first | exact c41 | exact c22 | exact c42y) | (apply Ab.Rg.mk; omega) | (apply Ab.Lt.mk; first | decide | (simp; done) | (simp; omega) | first | omega | (show (0 + 5 : Nat) < 5 + 1; decide)) | (apply Ab.Get.mk; first | rfl | first | rfl) | (apply Ab.Nm.mk; first | first | exact Eq.trans (congrArg (fun z => List.take _ (List.drop (z * 5) cs)) (Int.toNat_natCast i')) hE | exact (show ((kc x).drop 0).take 5 = kc x from rfl) | exact Eq.trans (congrArg (fun z => List.take _ (List.drop (z * 5) cs)) (show ((i' : Int) - 1).toNat = i' - 1 from by omega)) hEy | exact nrm_) | (apply Xg.s; constructor) | (apply Ab.asm; assumption) | rfl | infer_instance | decide))
          all_goals ((first | apply RetQ.ret | apply RetQ.normal); (case he => exact evr_); (case hg => rfl))
          all_goals first | rfl | (rw [← hs2]; exact Keeps.fr F2 (plR.nm rfl))
    · have hno : mvB nodes L = false := mvB_no fun h => hok (hnx.1 (LP.of h.2 _)).1
      rw [hno]
      rcases ok_not hok with k | k | k | k | k | k | k
      all_goals (try obtain ⟨k1, k⟩ := k)
      all_goals (try obtain ⟨k2, k⟩ := k)
      all_goals (try obtain ⟨k3, k⟩ := k)
      all_goals (try obtain ⟨k4, k⟩ := k)
      all_goals (try obtain ⟨k5, k⟩ := k)
      all_goals (try obtain ⟨k6, k⟩ := k)
      all_goals (repeat' (first | (apply Ab.K.ev; exact ev_) | (apply Ab.K.aops; first | (apply Xg.s; constructor) | (apply Ab.S.guardU; (case hd => rfl); (case hb => (exact ev_; done))) | apply Ab.S.guardG) | (apply Ab.K.aop; first | (first | (apply Ab.O.allocA (l := kc ⟨0, 0, 0, 0, false⟩) M; (case hid => exact T.free (Nat.le_refl _)); (case hp => rfl)) | (apply Ab.O.storeAll; (case hz => rfl); (case hx => exact ev_); (case hy => exact ev_); (case hs => exact at_); (case hl => rfl); (case hc => rfl))) | (apply Og.s; constructor)) | (apply Ab.K.gk; first | (apply Xg.s; constructor) | (apply Ab.gY; case hw => assumption) | (apply Ab.gNT; case hw => assumption) | (apply Ab.gNF; case hw => assumption) | ((first | apply Ab.gD | apply Ab.gDN); all_goals (intro _ _; (first | contradiction | (exfalso; omega) | skip)))) | (apply Ab.K.awp; first | (apply Xg.s; constructor)) | (apply Ab.K.at_; exact at_) | (apply Ab.K.acall; first | assumption | first | exact c41 | exact c22) | (apply Ab.Rg.mk; omega) | (apply Ab.Lt.mk; first | decide | (simp; done) | (simp; omega) | first | omega | (show (0 + 5 : Nat) < 5 + 1; decide)) | (apply Ab.Get.mk; first | rfl | first | rfl) | (apply Ab.Nm.mk; first | first | exact Eq.trans (congrArg (fun z => List.take _ (List.drop (z * 5) cs)) (Int.toNat_natCast i')) hE | exact (show ((kc x).drop 0).take 5 = kc x from rfl) | exact Eq.trans (congrArg (fun z => List.take _ (List.drop (z * 5) cs)) (show ((i' : Int) - 1).toNat = i' - 1 from by omega)) hEy | exact nrm_) | (apply Xg.s; constructor) | (apply Ab.asm; assumption) | rfl | infer_instance | decide))
      all_goals ((first | apply RetQ.ret | apply RetQ.normal); (case he => exact evr_); (case hg => rfl))
      all_goals first | rfl | (rw [← hs2]; exact Keeps.fr F2 (plR.nm rfl))
  · have hLO : LOk nodes L := P.all (by omega)
    have hyes : mvB nodes L = true := mvB_iff.2 ⟨hNO, hLO⟩
    rw [hyes]

    (repeat' (first | (apply Ab.K.ev; exact ev_) | (apply Ab.K.aops; first | (apply Xg.s; constructor) | (apply Ab.S.guardU; (case hd => rfl); (case hb => (exact ev_; done))) | apply Ab.S.guardG) | (apply Ab.K.aop; first | (apply Og.s; constructor)) | (apply Ab.K.gk; first | (apply Xg.s; constructor) | (apply Ab.gY; case hw => assumption) | (apply Ab.gNT; case hw => assumption) | (apply Ab.gNF; case hw => assumption) | ((first | apply Ab.gD | apply Ab.gDN); all_goals (intro _ _; (first | contradiction | (exfalso; omega) | skip)))) | (apply Ab.K.awp; first | (apply Xg.s; constructor)) | (apply Ab.K.at_; exact at_) | (apply Ab.K.acall; first | assumption | fail) | (apply Ab.Rg.mk; omega) | (apply Ab.Lt.mk; first | decide | (simp; done) | (simp; omega) | first | omega | (show (0 + 5 : Nat) < 5 + 1; decide)) | (apply Ab.Get.mk; first | rfl | first | rfl) | (apply Ab.Nm.mk; first | first | exact Eq.trans (congrArg (fun z => List.take _ (List.drop (z * 5) cs)) (Int.toNat_natCast i')) hE | exact (show ((kc x).drop 0).take 5 = kc x from rfl) | exact Eq.trans (congrArg (fun z => List.take _ (List.drop (z * 5) cs)) (show ((i' : Int) - 1).toNat = i' - 1 from by omega)) hEy | exact nrm_) | (apply Xg.s; constructor) | (apply Ab.asm; assumption) | rfl | infer_instance | decide))
    all_goals ((first | apply RetQ.ret | apply RetQ.normal); (case he => exact evr_); (case hg => rfl))
    all_goals first | rfl | exact Keeps.fr F (plR.nm rfl)
end Go.Proofs.Ytdbnpghckgmaoaa
