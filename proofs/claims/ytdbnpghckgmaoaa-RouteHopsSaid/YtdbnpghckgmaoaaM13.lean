/- texts of this claim, one behind the other: VB, VD, VF, TF, TJ7, VC, TG, TK. -/
import Derived.Test.YtdbnpghckgmaoaaM9
import Derived.Test.YtdbnpghckgmaoaaM12
import Derived.IntWalk
import Derived.MapKept

/- views: which may be, by the document and by the program. -/
namespace Go.Proofs.Ytdbnpghckgmaoaa
set_option linter.unusedVariables false
set_option linter.unusedSimpArgs false
set_option linter.unusedSectionVars false
open Go.RowKit Ab TP VP
attribute [local irreducible] AOps AOpsD AOp AWp put nargs AHeap.set At Free ACall ACallE thenQ blockQ roundQ RetQ RetE Src

noncomputable def mvB (nodes : List Int) (L : List Kn) : Bool := open Classical in decide (MayV nodes L)
theorem mvB_iff {nodes : List Int} {L : List Kn} : mvB nodes L = true ↔ MayV nodes L := by simp [mvB]
theorem mvB_no {nodes : List Int} {L : List Kn} (h : ¬ MayV nodes L) : mvB nodes L = false := by
  cases hh : mvB nodes L with
  | false => rfl
  | true => exact absurd (mvB_iff.1 hh) h
theorem ok_not {nodes : List Int} {k : Kn} (h : ¬ k.ok nodes) : k.node ∉ nodes ∨ (k.node ∈ nodes ∧ ¬ TP.Node k.peer) ∨ (k.node ∈ nodes ∧ TP.Node k.peer ∧ k.node = k.peer) ∨ (k.node ∈ nodes ∧ TP.Node k.peer ∧ ¬ k.node = k.peer ∧ k.w < 0) ∨ (k.node ∈ nodes ∧ TP.Node k.peer ∧ ¬ k.node = k.peer ∧ 0 ≤ k.w ∧ 2147483647 < k.w) ∨ (k.node ∈ nodes ∧ TP.Node k.peer ∧ ¬ k.node = k.peer ∧ 0 ≤ k.w ∧ k.w ≤ 2147483647 ∧ k.ss < 1) ∨ (k.node ∈ nodes ∧ TP.Node k.peer ∧ ¬ k.node = k.peer ∧ 0 ≤ k.w ∧ k.w ≤ 2147483647 ∧ 1 ≤ k.ss ∧ 2147483647 < k.ss) := by
  unfold Kn.ok at h
  by_cases h1 : k.node ∈ nodes
  · by_cases h2 : TP.Node k.peer
    · by_cases h3 : k.node = k.peer
      · exact .inr (.inr (.inl ⟨h1, h2, h3⟩))
      · have : ¬ (0 ≤ k.w ∧ k.w ≤ 2147483647 ∧ 1 ≤ k.ss ∧ k.ss ≤ 2147483647) := fun e => h ⟨h1, h2, h3, e.1, e.2.1, e.2.2.1, e.2.2.2⟩
        have h4 : k.w < 0 ∨ (0 ≤ k.w ∧ 2147483647 < k.w) ∨ (0 ≤ k.w ∧ k.w ≤ 2147483647 ∧ k.ss < 1) ∨ (0 ≤ k.w ∧ k.w ≤ 2147483647 ∧ 1 ≤ k.ss ∧ 2147483647 < k.ss) := by omega
        rcases h4 with h4 | h4 | h4 | h4
        · exact .inr (.inr (.inr (.inl ⟨h1, h2, h3, h4⟩)))
        · exact .inr (.inr (.inr (.inr (.inl ⟨h1, h2, h3, h4⟩))))
        · exact .inr (.inr (.inr (.inr (.inr (.inl ⟨h1, h2, h3, h4⟩)))))
        · exact .inr (.inr (.inr (.inr (.inr (.inr ⟨h1, h2, h3, h4⟩)))))
    · exact .inr (.inl ⟨h1, h2⟩)
  · exact .inl h1
/-- So far the nodes may be. -/
def NP (nodes : List Int) (i : Nat) : Prop := (∀ x ∈ nodes.take i, TP.Node x) ∧ (nodes.take i).Pairwise (· < ·)
theorem NP.zero {nodes : List Int} : NP nodes 0 := ⟨by simp, by simp⟩
theorem NP.all {nodes : List Int} {i : Nat} (h : NP nodes i) (hi : nodes.length ≤ i) : NOk nodes := by
  unfold NP at h; rwa [List.take_of_length_le hi] at h
theorem NP.of {nodes : List Int} (h : NOk nodes) (i : Nat) : NP nodes i := ⟨fun x hx => h.1 x (List.mem_of_mem_take hx), h.2.sublist (List.take_sublist _ _)⟩
theorem NP.next {nodes : List Int} {i : Nat} {x : Int} (h : NP nodes i) (hx : nodes[i]? = some x) : NP nodes (i + 1) ↔ TP.Node x ∧ (i = 0 ∨ ∃ y, nodes[i - 1]? = some y ∧ y < x) := by
  have htk : nodes.take (i + 1) = nodes.take i ++ [x] := by rw [List.take_add_one, hx]; rfl
  unfold NP
  rw [pw_snoc (R := fun a b : Int => a < b) (fun a b c h1 h2 => by omega) h.2 hx]
  refine and_congr_left fun _ => ⟨fun h1 => h1 x (by rw [htk]; simp), fun h1 y hy => ?_⟩
  rw [htk, List.mem_append, List.mem_singleton] at hy
  rcases hy with hy | rfl
  · exact h.1 y hy
  · exact h1
/-- So far the links may be. -/
def LP (nodes : List Int) (L : List Kn) (i : Nat) : Prop := (∀ k ∈ L.take i, k.ok nodes) ∧ (L.take i).Pairwise VP.ahead
theorem LP.zero {nodes : List Int} {L : List Kn} : LP nodes L 0 := ⟨by simp, by simp⟩
theorem LP.all {nodes : List Int} {L : List Kn} {i : Nat} (h : LP nodes L i) (hi : L.length ≤ i) : LOk nodes L := by
  unfold LP at h; rwa [List.take_of_length_le hi] at h
theorem LP.of {nodes : List Int} {L : List Kn} (h : LOk nodes L) (i : Nat) : LP nodes L i := ⟨fun x hx => h.1 x (List.mem_of_mem_take hx), h.2.sublist (List.take_sublist _ _)⟩
theorem LP.next {nodes : List Int} {L : List Kn} {i : Nat} {x : Kn} (h : LP nodes L i) (hx : L[i]? = some x) : LP nodes L (i + 1) ↔ x.ok nodes ∧ (i = 0 ∨ ∃ y, L[i - 1]? = some y ∧ VP.ahead y x) := by
  have htk : L.take (i + 1) = L.take i ++ [x] := by rw [List.take_add_one, hx]; rfl
  unfold LP
  rw [pw_snoc (R := VP.ahead) (fun a b c h1 h2 => ahead_trans h1 h2) h.2 hx]
  refine and_congr_left fun _ => ⟨fun h1 => h1 x (by rw [htk]; simp), fun h1 y hy => ?_⟩
  rw [htk, List.mem_append, List.mem_singleton] at hy
  rcases hy with hy | rfl
  · exact h.1 y hy
  · exact h1
set_option maxHeartbeats 4000000 in
theorem may09 {s : AHeap} {A B : Option Addr} {n c m d : Nat} {on ol : Option Nat} {nodes : List Int} {L : List Kn} (hN : NA s (.slice A n c) on nodes) (hL : KA s (.slice B m d) ol L) (hn : n ≤ 100000) (hm : m ≤ 100000) :
    ACall Try.prog 26 [.agg #[.slice A n c, .slice B m d]] s (.bool (mvB nodes L)) s := by
  have hnl : n = nodes.length := by obtain ⟨_, _, e⟩ := hN.isl; injection e
  have hml : m = L.length := by obtain ⟨_, _, e⟩ := hL.isl; injection e
  refine ACall.make Try.func26 rfl (by kernel_rfl) (by decide) rfl (fun N hN0 => ?_)
  have hT : Top N s := hN0
  (repeat' (first | (apply Ab.K.ev; exact ev_) | (apply Ab.K.aops; first | (apply Xg.s; constructor) | (apply Ab.S.guardU; (case hd => rfl); (case hb => (exact ev_; done))) | apply Ab.S.guardG) | (apply Ab.K.aop; first | (apply Ab.O.boxA (l := [.slice A n c, .slice B m d]) N; (case hx => exact ev_); (case hid => exact hT.free (Nat.le_refl _))) | (apply Og.s; constructor)) | (apply Ab.K.gk; first | (apply Xg.s; constructor) | (apply Ab.gY; case hw => assumption) | (apply Ab.gNT; case hw => assumption) | (apply Ab.gNF; case hw => assumption) | ((first | apply Ab.gD | apply Ab.gDN); all_goals (intro _ _; (first | contradiction | (exfalso; omega) | skip)))) | (apply Ab.K.awp; first | (apply Xg.s; constructor)) | (apply Ab.K.at_; exact at_) | (apply Ab.K.acall; first | assumption | fail) | (apply Ab.Rg.mk; omega) | (apply Ab.Lt.mk; first | decide | (simp; done) | (simp; omega) | fail) | (apply Ab.Get.mk; first | rfl | fail) | (apply Ab.Nm.mk; first | exact nrm_) | (apply Xg.s; constructor) | (apply Ab.asm; assumption) | rfl | infer_instance | decide))
  refine AWp.loop (fun kk tm s1 => ∃ i : Nat, Ev tm (.tmp 1) (.pointer (some ⟨N, 0, none⟩)) ∧ Ev tm (.tmp 3) (.int .i64 i) ∧ At s1 N (.cells true 1 [.slice A n c, .slice B m d]) ∧ Fr s1 s [] ∧ Top (N + 1) s1 ∧ NP nodes i ∧ i ≤ n ∧ kk = n - i) n ?_ ?_
  · exact ⟨0, by exact ev_, by exact ev_, by exact at_, by exact fr_, by exact top_, NP.zero, by omega, rfl⟩
  rintro kk tm s1 ⟨i, e1, e3, a1, F, T, P, hi, hkk⟩
  by_cases hin : i < n
  · obtain ⟨x, hx⟩ : ∃ x, nodes[i]? = some x := ⟨_, List.getElem?_eq_getElem (by omega)⟩
    have hnx := P.next hx
    obtain ⟨q, rw1, cs, rfl, _, _, hq, g0⟩ := (hN.fr F).elt hx
    have c22 : ACall Try.prog 22 [.int .i64 x] s1 (.bool (decide (TP.Node x))) s1 := node15


    by_cases hxn : TP.Node x
    · rw [decide_eq_true hxn] at c22
      by_cases hi0 : i = 0
      · have P1 := hnx.2 ⟨hxn, .inl hi0⟩
        (repeat' (first | (apply Ab.K.ev; exact ev_) | (apply Ab.K.aops; first | (apply Xg.s; constructor) | (apply Ab.S.guardU; (case hd => rfl); (case hb => (exact ev_; done))) | apply Ab.S.guardG) | (apply Ab.K.aop; first | (apply Og.s; constructor)) | (apply Ab.K.gk; first | (apply Xg.s; constructor) | (apply Ab.gY; case hw => assumption) | (apply Ab.gNT; case hw => assumption) | (apply Ab.gNF; case hw => assumption) | ((first | apply Ab.gD | apply Ab.gDN); all_goals (intro _ _; (first | contradiction | (exfalso; omega) | skip)))) | (apply Ab.K.aopsD; first | (apply Ab.D.q0t; (case hw => rfl); (case hot => rfl)) | (apply Ab.D.w1t; (case hw => rfl); (case hot => rfl)) | (apply Ab.D.q0; (case hw => rfl); intro _ _) | (apply Ab.D.w1n; (case hw => rfl); intro _ _) | (apply Ab.D.w2n; (case hw => rfl); intro _ _) | (apply Xg.s; constructor) | (apply Ab.D.guardU; (case hd => rfl); (case hb => (exact ev_; done))) | apply Ab.D.guardG) | exact ⟨rfl, rfl⟩ | (apply Ab.K.awp; first | (apply AWp.draw (id := 4) [[], [0], [], [0, 1, 2], [0, 1, 2, 3], [0, 1, 2, 3, 4], [0, 1, 2, 3, 4, 5], [0, 1, 2, 3, 4, 5, 6], [0, 1, 2, 3, 4, 5, 6, 7], [0, 1, 2, 3, 4, 5, 6, 7, 8], [0, 1, 2, 3, 4, 5, 6, 7, 8, 9], [0, 1, 2, 3, 4, 5, 6, 7, 8, 9, 10], [0, 1, 2, 3, 4, 5, 6, 7, 8, 9, 10, 11], [0, 1, 2, 3, 4, 5, 6, 7, 8, 9, 10], [0, 1, 2, 3, 4, 5, 6, 7, 8, 9, 10, 13], [0, 1, 2, 3, 4, 5, 6, 7, 8, 9, 10, 11, 12, 13, 14], [0, 1, 2, 3, 4, 5, 6, 7, 8, 9, 10, 11, 12, 13, 14, 15], [0, 1, 2, 3, 4, 5, 6, 7, 8, 9, 10], [0, 1, 2, 3, 4, 5, 6, 7, 8, 9, 10, 17], [0, 1, 2, 3, 4, 5, 6, 7, 8, 9, 10], [0, 1, 2, 3, 4, 5, 6, 7, 8, 9, 10, 17, 18, 19], [0, 1, 2, 3, 4, 5, 6, 7, 8, 9, 10, 17, 18, 19, 20], [0, 1, 2, 3, 4, 5, 6, 7, 8, 9, 10, 11, 12, 13, 14, 15, 16, 17, 18, 19, 20, 21], [0, 1, 2, 3, 4, 5, 6, 7, 8, 9, 10, 11, 12, 13, 14, 15, 16, 17, 18, 19, 20, 21, 22], [0, 1, 2, 3, 4, 5, 6, 7, 8, 9, 10, 11, 12, 13, 14, 15, 16, 17, 18, 19, 20, 21, 22, 23]] [] (by kernel_rfl) (by kernel_rfl) (by simp [apartW, unordB, cC] <;> omega)) | (apply Xg.s; constructor)) | (apply Ab.K.at_; exact at_) | (apply Ab.K.acall; first | assumption | exact c22) | (apply Ab.Rg.mk; omega) | (apply Ab.Lt.mk; first | decide | (simp; done) | (simp; omega) | fail) | (apply Ab.Get.mk; first | rfl | first | rfl | (rw [Int.toNat_natCast]; exact g0) | (rw [show ((i : Int) - 1).toNat = i - 1 from by omega]; exact g1)) | (apply Ab.Nm.mk; first | exact nrm_) | (apply Xg.s; constructor) | (apply Ab.asm; assumption) | rfl | infer_instance | decide))
        exact X.roundN (n - (i + 1)) (by omega) ⟨i + 1, by exact ev_, by exact ev_, a1, F, T, P1, by omega, rfl⟩
      · obtain ⟨y, hy⟩ : ∃ y, nodes[i - 1]? = some y := ⟨_, List.getElem?_eq_getElem (by omega)⟩
        obtain ⟨q2, rw2, cs2, hqq, _, _, hq2, g1⟩ := (hN.fr F).elt hy
        obtain rfl : q = q2 := by have := Option.some.inj hqq; injection this
        have e2 := hq.eq.symm.trans hq2.eq
        injection e2 with e2
        injection e2 with _ _ e2
        subst e2
        by_cases hyx : y < x
        · have P1 := hnx.2 ⟨hxn, .inr ⟨y, hy, hyx⟩⟩
          (repeat' (first | (apply Ab.K.ev; exact ev_) | (apply Ab.K.aops; first | (apply Xg.s; constructor) | (apply Ab.S.guardU; (case hd => rfl); (case hb => (exact ev_; done))) | apply Ab.S.guardG) | (apply Ab.K.aop; first | (apply Og.s; constructor)) | (apply Ab.K.gk; first | (apply Xg.s; constructor) | (apply Ab.gY; case hw => assumption) | (apply Ab.gNT; case hw => assumption) | (apply Ab.gNF; case hw => assumption) | ((first | apply Ab.gD | apply Ab.gDN); all_goals (intro _ _; (first | contradiction | (exfalso; omega) | skip)))) | (apply Ab.K.aopsD; first | (apply Ab.D.q0t; (case hw => rfl); (case hot => rfl)) | (apply Ab.D.w1t; (case hw => rfl); (case hot => rfl)) | (apply Ab.D.q0; (case hw => rfl); intro _ _) | (apply Ab.D.w1n; (case hw => rfl); intro _ _) | (apply Ab.D.w2n; (case hw => rfl); intro _ _) | (apply Xg.s; constructor) | (apply Ab.D.guardU; (case hd => rfl); (case hb => (exact ev_; done))) | apply Ab.D.guardG) | exact ⟨rfl, rfl⟩ | (apply Ab.K.awp; first | (apply AWp.draw (id := 4) [[], [0], [], [0, 1, 2], [0, 1, 2, 3], [0, 1, 2, 3, 4], [0, 1, 2, 3, 4, 5], [0, 1, 2, 3, 4, 5, 6], [0, 1, 2, 3, 4, 5, 6, 7], [0, 1, 2, 3, 4, 5, 6, 7, 8], [0, 1, 2, 3, 4, 5, 6, 7, 8, 9], [0, 1, 2, 3, 4, 5, 6, 7, 8, 9, 10], [0, 1, 2, 3, 4, 5, 6, 7, 8, 9, 10, 11], [0, 1, 2, 3, 4, 5, 6, 7, 8, 9, 10], [0, 1, 2, 3, 4, 5, 6, 7, 8, 9, 10, 13], [0, 1, 2, 3, 4, 5, 6, 7, 8, 9, 10, 11, 12, 13, 14], [0, 1, 2, 3, 4, 5, 6, 7, 8, 9, 10, 11, 12, 13, 14, 15], [0, 1, 2, 3, 4, 5, 6, 7, 8, 9, 10], [0, 1, 2, 3, 4, 5, 6, 7, 8, 9, 10, 17], [0, 1, 2, 3, 4, 5, 6, 7, 8, 9, 10], [0, 1, 2, 3, 4, 5, 6, 7, 8, 9, 10, 17, 18, 19], [0, 1, 2, 3, 4, 5, 6, 7, 8, 9, 10, 17, 18, 19, 20], [0, 1, 2, 3, 4, 5, 6, 7, 8, 9, 10, 11, 12, 13, 14, 15, 16, 17, 18, 19, 20, 21], [0, 1, 2, 3, 4, 5, 6, 7, 8, 9, 10, 11, 12, 13, 14, 15, 16, 17, 18, 19, 20, 21, 22], [0, 1, 2, 3, 4, 5, 6, 7, 8, 9, 10, 11, 12, 13, 14, 15, 16, 17, 18, 19, 20, 21, 22, 23]] [] (by kernel_rfl) (by kernel_rfl) (by simp [apartW, unordB, cC] <;> omega)) | (apply Xg.s; constructor)) | (apply Ab.K.at_; exact at_) | (apply Ab.K.acall; first | assumption | exact c22) | (apply Ab.Rg.mk; omega) | (apply Ab.Lt.mk; first | decide | (simp; done) | (simp; omega) | fail) | (apply Ab.Get.mk; first | rfl | first | rfl | (rw [Int.toNat_natCast]; exact g0) | (rw [show ((i : Int) - 1).toNat = i - 1 from by omega]; exact g1)) | (apply Ab.Nm.mk; first | exact nrm_) | (apply Xg.s; constructor) | (apply Ab.asm; assumption) | rfl | infer_instance | decide))
          exact X.roundN (n - (i + 1)) (by omega) ⟨i + 1, by exact ev_, by exact ev_, a1, F, T, P1, by omega, rfl⟩
        · have hno : mvB nodes L = false := mvB_no fun h => by
            rcases (hnx.1 (NP.of h.1 _)).2 with h1 | ⟨y', h1, h2⟩
            · exact hi0 h1
            · rw [hy] at h1; obtain rfl := Option.some.inj h1; exact hyx h2
          rw [hno]
          (repeat' (first | (apply Ab.K.ev; exact ev_) | (apply Ab.K.aops; first | (apply Xg.s; constructor) | (apply Ab.S.guardU; (case hd => rfl); (case hb => (exact ev_; done))) | apply Ab.S.guardG) | (apply Ab.K.aop; first | (apply Og.s; constructor)) | (apply Ab.K.gk; first | (apply Xg.s; constructor) | (apply Ab.gY; case hw => assumption) | (apply Ab.gNT; case hw => assumption) | (apply Ab.gNF; case hw => assumption) | ((first | apply Ab.gD | apply Ab.gDN); all_goals (intro _ _; (first | contradiction | (exfalso; omega) | skip)))) | (apply Ab.K.aopsD; first | (apply Ab.D.q0t; (case hw => rfl); (case hot => rfl)) | (apply Ab.D.w1t; (case hw => rfl); (case hot => rfl)) | (apply Ab.D.q0; (case hw => rfl); intro _ _) | (apply Ab.D.w1n; (case hw => rfl); intro _ _) | (apply Ab.D.w2n; (case hw => rfl); intro _ _) | (apply Xg.s; constructor) | (apply Ab.D.guardU; (case hd => rfl); (case hb => (exact ev_; done))) | apply Ab.D.guardG) | exact ⟨rfl, rfl⟩ | (apply Ab.K.awp; first | (apply AWp.draw (id := 4) [[], [0], [], [0, 1, 2], [0, 1, 2, 3], [0, 1, 2, 3, 4], [0, 1, 2, 3, 4, 5], [0, 1, 2, 3, 4, 5, 6], [0, 1, 2, 3, 4, 5, 6, 7], [0, 1, 2, 3, 4, 5, 6, 7, 8], [0, 1, 2, 3, 4, 5, 6, 7, 8, 9], [0, 1, 2, 3, 4, 5, 6, 7, 8, 9, 10], [0, 1, 2, 3, 4, 5, 6, 7, 8, 9, 10, 11], [0, 1, 2, 3, 4, 5, 6, 7, 8, 9, 10], [0, 1, 2, 3, 4, 5, 6, 7, 8, 9, 10, 13], [0, 1, 2, 3, 4, 5, 6, 7, 8, 9, 10, 11, 12, 13, 14], [0, 1, 2, 3, 4, 5, 6, 7, 8, 9, 10, 11, 12, 13, 14, 15], [0, 1, 2, 3, 4, 5, 6, 7, 8, 9, 10], [0, 1, 2, 3, 4, 5, 6, 7, 8, 9, 10, 17], [0, 1, 2, 3, 4, 5, 6, 7, 8, 9, 10], [0, 1, 2, 3, 4, 5, 6, 7, 8, 9, 10, 17, 18, 19], [0, 1, 2, 3, 4, 5, 6, 7, 8, 9, 10, 17, 18, 19, 20], [0, 1, 2, 3, 4, 5, 6, 7, 8, 9, 10, 11, 12, 13, 14, 15, 16, 17, 18, 19, 20, 21], [0, 1, 2, 3, 4, 5, 6, 7, 8, 9, 10, 11, 12, 13, 14, 15, 16, 17, 18, 19, 20, 21, 22], [0, 1, 2, 3, 4, 5, 6, 7, 8, 9, 10, 11, 12, 13, 14, 15, 16, 17, 18, 19, 20, 21, 22, 23]] [] (by kernel_rfl) (by kernel_rfl) (by simp [apartW, unordB, cC] <;> omega)) | (apply Xg.s; constructor)) | (apply Ab.K.at_; exact at_) | (apply Ab.K.acall; first | assumption | exact c22) | (apply Ab.Rg.mk; omega) | (apply Ab.Lt.mk; first | decide | (simp; done) | (simp; omega) | fail) | (apply Ab.Get.mk; first | rfl | first | rfl | (rw [Int.toNat_natCast]; exact g0) | (rw [show ((i : Int) - 1).toNat = i - 1 from by omega]; exact g1)) | (apply Ab.Nm.mk; first | exact nrm_) | (apply Xg.s; constructor) | (apply Ab.asm; assumption) | rfl | infer_instance | decide))
          all_goals ((first | apply RetQ.ret | apply RetQ.normal); (case he => exact evr_); (case hg => rfl))
          all_goals first | rfl | exact Keeps.fr F (plR.nm rfl)
    · have hno : mvB nodes L = false := mvB_no fun h => hxn (hnx.1 (NP.of h.1 _)).1
      rw [hno]
      rw [decide_eq_false hxn] at c22
      (repeat' (first | (apply Ab.K.ev; exact ev_) | (apply Ab.K.aops; first | (apply Xg.s; constructor) | (apply Ab.S.guardU; (case hd => rfl); (case hb => (exact ev_; done))) | apply Ab.S.guardG) | (apply Ab.K.aop; first | (apply Og.s; constructor)) | (apply Ab.K.gk; first | (apply Xg.s; constructor) | (apply Ab.gY; case hw => assumption) | (apply Ab.gNT; case hw => assumption) | (apply Ab.gNF; case hw => assumption) | ((first | apply Ab.gD | apply Ab.gDN); all_goals (intro _ _; (first | contradiction | (exfalso; omega) | skip)))) | (apply Ab.K.aopsD; first | (apply Ab.D.q0t; (case hw => rfl); (case hot => rfl)) | (apply Ab.D.w1t; (case hw => rfl); (case hot => rfl)) | (apply Ab.D.q0; (case hw => rfl); intro _ _) | (apply Ab.D.w1n; (case hw => rfl); intro _ _) | (apply Ab.D.w2n; (case hw => rfl); intro _ _) | (apply Xg.s; constructor) | (apply Ab.D.guardU; (case hd => rfl); (case hb => (exact ev_; done))) | apply Ab.D.guardG) | exact ⟨rfl, rfl⟩ | (apply Ab.K.awp; first | (apply AWp.draw (id := 4) [[], [0], [], [0, 1, 2], [0, 1, 2, 3], [0, 1, 2, 3, 4], [0, 1, 2, 3, 4, 5], [0, 1, 2, 3, 4, 5, 6], [0, 1, 2, 3, 4, 5, 6, 7], [0, 1, 2, 3, 4, 5, 6, 7, 8], [0, 1, 2, 3, 4, 5, 6, 7, 8, 9], [0, 1, 2, 3, 4, 5, 6, 7, 8, 9, 10], [0, 1, 2, 3, 4, 5, 6, 7, 8, 9, 10, 11], [0, 1, 2, 3, 4, 5, 6, 7, 8, 9, 10], [0, 1, 2, 3, 4, 5, 6, 7, 8, 9, 10, 13], [0, 1, 2, 3, 4, 5, 6, 7, 8, 9, 10, 11, 12, 13, 14], [0, 1, 2, 3, 4, 5, 6, 7, 8, 9, 10, 11, 12, 13, 14, 15], [0, 1, 2, 3, 4, 5, 6, 7, 8, 9, 10], [0, 1, 2, 3, 4, 5, 6, 7, 8, 9, 10, 17], [0, 1, 2, 3, 4, 5, 6, 7, 8, 9, 10], [0, 1, 2, 3, 4, 5, 6, 7, 8, 9, 10, 17, 18, 19], [0, 1, 2, 3, 4, 5, 6, 7, 8, 9, 10, 17, 18, 19, 20], [0, 1, 2, 3, 4, 5, 6, 7, 8, 9, 10, 11, 12, 13, 14, 15, 16, 17, 18, 19, 20, 21], [0, 1, 2, 3, 4, 5, 6, 7, 8, 9, 10, 11, 12, 13, 14, 15, 16, 17, 18, 19, 20, 21, 22], [0, 1, 2, 3, 4, 5, 6, 7, 8, 9, 10, 11, 12, 13, 14, 15, 16, 17, 18, 19, 20, 21, 22, 23]] [] (by kernel_rfl) (by kernel_rfl) (by simp [apartW, unordB, cC] <;> omega)) | (apply Xg.s; constructor)) | (apply Ab.K.at_; exact at_) | (apply Ab.K.acall; first | assumption | exact c22) | (apply Ab.Rg.mk; omega) | (apply Ab.Lt.mk; first | decide | (simp; done) | (simp; omega) | fail) | (apply Ab.Get.mk; first | rfl | first | rfl | (rw [Int.toNat_natCast]; exact g0) | (rw [show ((i : Int) - 1).toNat = i - 1 from by omega]; exact g1)) | (apply Ab.Nm.mk; first | exact nrm_) | (apply Xg.s; constructor) | (apply Ab.asm; assumption) | rfl | infer_instance | decide))
      all_goals ((first | apply RetQ.ret | apply RetQ.normal); (case he => exact evr_); (case hg => rfl))
      all_goals first | rfl | exact Keeps.fr F (plR.nm rfl)


  have hNO : NOk nodes := P.all (by omega)
  (repeat' (first | (apply Ab.K.ev; exact ev_) | (apply Ab.K.aops; first | (apply Xg.s; constructor) | (apply Ab.S.guardU; (case hd => rfl); (case hb => (exact ev_; done))) | apply Ab.S.guardG) | (apply Ab.K.aop; first | (apply Og.s; constructor)) | (apply Ab.K.gk; first | (apply Xg.s; constructor) | (apply Ab.gY; case hw => assumption) | (apply Ab.gNT; case hw => assumption) | (apply Ab.gNF; case hw => assumption) | ((first | apply Ab.gD | apply Ab.gDN); all_goals (intro _ _; (first | contradiction | (exfalso; omega) | skip)))) | (apply Ab.K.awp; first | (apply Xg.s; constructor)) | (apply Ab.K.at_; exact at_) | (apply Ab.K.acall; first | assumption | fail) | (apply Ab.Rg.mk; omega) | (apply Ab.Lt.mk; first | decide | (simp; done) | (simp; omega) | fail) | (apply Ab.Get.mk; first | rfl | first | rfl) | (apply Ab.Nm.mk; first | exact nrm_) | (apply Xg.s; constructor) | (apply Ab.asm; assumption) | rfl | infer_instance | decide))
  clear P
  refine AWp.loop (fun kk tm s1 => ∃ i M : Nat, Ev tm (.tmp 1) (.pointer (some ⟨N, 0, none⟩)) ∧ Ev tm (.tmp 4) (.int .i64 i) ∧ At s1 N (.cells true 1 [.slice A n c, .slice B m d]) ∧ Fr s1 s [] ∧ Top M s1 ∧ N < M ∧ LP nodes L i ∧ i ≤ m ∧ kk = m - i) m ?_ ?_
  · exact ⟨0, N + 1, by exact ev_, by exact ev_, a1, F, T, by omega, LP.zero, by omega, rfl⟩
  clear a1 F T e1 e3
  rintro kk tm s1 ⟨i', M, e1, e4, a1, F, T, hNM, P, hi', hkk⟩
  by_cases hin' : i' < m
  · obtain ⟨x, hx⟩ : ∃ x, L[i']? = some x := ⟨_, List.getElem?_eq_getElem (by omega)⟩
    have hnx := P.next hx
    obtain ⟨q, rw1, cs, rfl, _, _, hq, hcs, hE, _⟩ := (hL.fr F).elt hx
    have hqM := T.lt hq
    obtain ⟨s2, hs2⟩ : ∃ s2, s2 = (s1.set M (.cells true 1 (kc ⟨0, 0, 0, 0, false⟩))).set M (.cells true 1 (kc x)) := ⟨_, rfl⟩
    have F2 : Fr s2 s [] := by rw [hs2, AHeap.set_set]; exact Fr.new (hT.free (by omega)) F
    have T2 : Top (M + 1) s2 := by rw [hs2, AHeap.set_set]; exact T.new
    have aM : At s2 M (.cells true 1 (kc x)) := by rw [hs2]; exact At.hit
    have a12 : At s2 N (.cells true 1 [.slice A n c, .slice (some ⟨q, 0, none⟩) m d]) := by rw [hs2]; exact at_
    have hq2 : At s2 q (.cells rw1 5 cs) := by rw [hs2]; exact at_
    have c41 := in09 (x := x.node) (hN.fr F2) (by omega)
    have c22 : ACall Try.prog 22 [.int .i64 x.peer] s2 (.bool (decide (TP.Node x.peer))) s2 := node15
    have hm5 := hE
    have c42 : ∀ p : Kn, ACall Try.prog 42 [.agg (kc p).toArray, .agg (kc x).toArray] s2 (.bool (decide (VP.ahead p x))) s2 := fun p => ahead09



    rw [hs2] at c41 c22 c42
    by_cases hok : x.ok nodes
    · obtain ⟨k1, k2, k3, k4, k5, k6, k7⟩ := hok
      rw [decide_eq_true k1] at c41
      rw [decide_eq_true k2] at c22
      by_cases hi0 : i' = 0
      · have P1 := hnx.2 ⟨⟨k1, k2, k3, k4, k5, k6, k7⟩, .inl hi0⟩
        (repeat' (first | (apply Ab.K.ev; exact ev_) | (apply Ab.K.aops; first | (apply Xg.s; constructor) | (apply Ab.S.guardU; (case hd => rfl); (case hb => (exact ev_; done))) | apply Ab.S.guardG) | (apply Ab.K.aop; first | (first | (apply Ab.O.allocA (l := kc ⟨0, 0, 0, 0, false⟩) M; (case hid => exact T.free (Nat.le_refl _)); (case hp => rfl)) | (apply Ab.O.storeAll; (case hz => rfl); (case hx => exact ev_); (case hy => exact ev_); (case hs => exact at_); (case hl => rfl); (case hc => rfl))) | (apply Og.s; constructor)) | (apply Ab.K.gk; first | (apply Xg.s; constructor) | (apply Ab.gY; case hw => assumption) | (apply Ab.gNT; case hw => assumption) | (apply Ab.gNF; case hw => assumption) | ((first | apply Ab.gD | apply Ab.gDN); all_goals (intro _ _; (first | contradiction | (exfalso; omega) | skip)))) | (apply Ab.K.aopsD; first | (apply Ab.D.q0t; (case hw => rfl); (case hot => rfl)) | (apply Ab.D.w1t; (case hw => rfl); (case hot => rfl)) | (apply Ab.D.q0; (case hw => rfl); intro _ _) | (apply Ab.D.w1n; (case hw => rfl); intro _ _) | (apply Ab.D.w2n; (case hw => rfl); intro _ _) | (apply Xg.s; constructor) | (apply Ab.D.guardU; (case hd => rfl); (case hb => (exact ev_; done))) | apply Ab.D.guardG) | exact ⟨rfl, rfl⟩ | (apply Ab.K.awp; first | (apply AWp.draw (id := 12) [[], [0], [0, 1], [0, 1, 2], [0, 1, 2, 3], [0, 1, 2], [0, 1, 2, 5], [0, 1, 2, 3, 4, 5, 6], [0, 1, 2, 3, 4, 5, 6, 7], [0, 1, 2], [0, 1, 2, 3, 4, 5, 6, 7, 8, 9], [0, 1, 2, 3, 4, 5, 6, 7, 8, 9, 10], [0, 1, 2, 3, 4, 5, 6, 7, 8, 9, 10, 11]] [] (by kernel_rfl) (by kernel_rfl) (by simp [apartW, unordB, cC] <;> omega)) | (apply Xg.s; constructor)) | (apply Ab.K.at_; exact at_) | (apply Ab.K.acall; first | assumption | first | exact c41 | exact c22 | exact c42 _) | (apply Ab.Rg.mk; omega) | (apply Ab.Lt.mk; first | decide | (simp; done) | (simp; omega) | first | omega | (show (0 + 5 : Nat) < 5 + 1; decide)) | (apply Ab.Get.mk; first | rfl | first | rfl) | (apply Ab.Nm.mk; first | first | exact Eq.trans (congrArg (fun z => List.take _ (List.drop (z * 5) cs)) (Int.toNat_natCast i')) hE | exact (show ((kc x).drop 0).take 5 = kc x from rfl) | exact Eq.trans (congrArg (fun z => List.take _ (List.drop (z * 5) cs)) (show ((i' : Int) - 1).toNat = i' - 1 from by omega)) hEy | exact nrm_) | (apply Xg.s; constructor) | (apply Ab.asm; assumption) | rfl | infer_instance | decide))
        rw [← hs2]
        exact X.roundN (m - (i' + 1)) (by omega) ⟨i' + 1, M + 1, by exact ev_, by exact ev_, a12, F2, T2, by omega, P1, by omega, rfl⟩
      · obtain ⟨y, hy⟩ : ∃ y, L[i' - 1]? = some y := ⟨_, List.getElem?_eq_getElem (by omega)⟩
        obtain ⟨q2, rw2, cs2, hqq, _, _, hq3, hcs2, hEy, _⟩ := (hL.fr F).elt hy
        obtain rfl : q = q2 := by have := Option.some.inj hqq; injection this
        have e2 := hq.eq.symm.trans hq3.eq
        injection e2 with e2
        injection e2 with _ _ e2
        subst e2
        have c42y := c42 y
        by_cases hyx : VP.ahead y x
        · have P1 := hnx.2 ⟨⟨k1, k2, k3, k4, k5, k6, k7⟩, .inr ⟨y, hy, hyx⟩⟩
          rw [decide_eq_true hyx] at c42y
          (repeat' (first | (apply Ab.K.ev; exact ev_) | (apply Ab.K.aops; first | (apply Xg.s; constructor) | (apply Ab.S.guardU; (case hd => rfl); (case hb => (exact ev_; done))) | apply Ab.S.guardG) | (apply Ab.K.aop; first | (first | (apply Ab.O.allocA (l := kc ⟨0, 0, 0, 0, false⟩) M; (case hid => exact T.free (Nat.le_refl _)); (case hp => rfl)) | (apply Ab.O.storeAll; (case hz => rfl); (case hx => exact ev_); (case hy => exact ev_); (case hs => exact at_); (case hl => rfl); (case hc => rfl))) | (apply Og.s; constructor)) | (apply Ab.K.gk; first | (apply Xg.s; constructor) | (apply Ab.gY; case hw => assumption) | (apply Ab.gNT; case hw => assumption) | (apply Ab.gNF; case hw => assumption) | ((first | apply Ab.gD | apply Ab.gDN); all_goals (intro _ _; (first | contradiction | (exfalso; omega) | skip)))) | (apply Ab.K.aopsD; first | (apply Ab.D.q0t; (case hw => rfl); (case hot => rfl)) | (apply Ab.D.w1t; (case hw => rfl); (case hot => rfl)) | (apply Ab.D.q0; (case hw => rfl); intro _ _) | (apply Ab.D.w1n; (case hw => rfl); intro _ _) | (apply Ab.D.w2n; (case hw => rfl); intro _ _) | (apply Xg.s; constructor) | (apply Ab.D.guardU; (case hd => rfl); (case hb => (exact ev_; done))) | apply Ab.D.guardG) | exact ⟨rfl, rfl⟩ | (apply Ab.K.awp; first | (apply AWp.draw (id := 12) [[], [0], [0, 1], [0, 1, 2], [0, 1, 2, 3], [0, 1, 2], [0, 1, 2, 5], [0, 1, 2, 3, 4, 5, 6], [0, 1, 2, 3, 4, 5, 6, 7], [0, 1, 2], [0, 1, 2, 3, 4, 5, 6, 7, 8, 9], [0, 1, 2, 3, 4, 5, 6, 7, 8, 9, 10], [0, 1, 2, 3, 4, 5, 6, 7, 8, 9, 10, 11]] [] (by kernel_rfl) (by kernel_rfl) (by simp [apartW, unordB, cC] <;> omega)) | (apply Xg.s; constructor)) | (apply Ab.K.at_; exact at_) | (apply Ab.K.acall; first | assumption | first | exact c41 | exact c22 | exact c42y) | (apply Ab.Rg.mk; omega) | (apply Ab.Lt.mk; first | decide | (simp; done) | (simp; omega) | first | omega | (show (0 + 5 : Nat) < 5 + 1; decide)) | (apply Ab.Get.mk; first | rfl | first | rfl) | (apply Ab.Nm.mk; first | first | exact Eq.trans (congrArg (fun z => List.take _ (List.drop (z * 5) cs)) (Int.toNat_natCast i')) hE | exact (show ((kc x).drop 0).take 5 = kc x from rfl) | exact Eq.trans (congrArg (fun z => List.take _ (List.drop (z * 5) cs)) (show ((i' : Int) - 1).toNat = i' - 1 from by omega)) hEy | exact nrm_) | (apply Xg.s; constructor) | (apply Ab.asm; assumption) | rfl | infer_instance | decide))
          rw [← hs2]
          exact X.roundN (m - (i' + 1)) (by omega) ⟨i' + 1, M + 1, by exact ev_, by exact ev_, a12, F2, T2, by omega, P1, by omega, rfl⟩
        · have hno : mvB nodes L = false := mvB_no fun h => by
            rcases (hnx.1 (LP.of h.2 _)).2 with h1 | ⟨y', h1, h2⟩
            · exact hi0 h1
            · rw [hy] at h1; obtain rfl := Option.some.inj h1; exact hyx h2
          rw [hno]
          rw [decide_eq_false hyx] at c42y
          (repeat' (first | (apply Ab.K.ev; exact ev_) | (apply Ab.K.aops; first | (apply Xg.s; constructor) | (apply Ab.S.guardU; (case hd => rfl); (case hb => (exact ev_; done))) | apply Ab.S.guardG) | (apply Ab.K.aop; first | (first | (apply Ab.O.allocA (l := kc ⟨0, 0, 0, 0, false⟩) M; (case hid => exact T.free (Nat.le_refl _)); (case hp => rfl)) | (apply Ab.O.storeAll; (case hz => rfl); (case hx => exact ev_); (case hy => exact ev_); (case hs => exact at_); (case hl => rfl); (case hc => rfl))) | (apply Og.s; constructor)) | (apply Ab.K.gk; first | (apply Xg.s; constructor) | (apply Ab.gY; case hw => assumption) | (apply Ab.gNT; case hw => assumption) | (apply Ab.gNF; case hw => assumption) | ((first | apply Ab.gD | apply Ab.gDN); all_goals (intro _ _; (first | contradiction | (exfalso; omega) | skip)))) | (apply Ab.K.aopsD; first | (apply Ab.D.q0t; (case hw => rfl); (case hot => rfl)) | (apply Ab.D.w1t; (case hw => rfl); (case hot => rfl)) | (apply Ab.D.q0; (case hw => rfl); intro _ _) | (apply Ab.D.w1n; (case hw => rfl); intro _ _) | (apply Ab.D.w2n; (case hw => rfl); intro _ _) | (apply Xg.s; constructor) | (apply Ab.D.guardU; (case hd => rfl); (case hb => (exact ev_; done))) | apply Ab.D.guardG) | exact ⟨rfl, rfl⟩ | (apply Ab.K.awp; first | (apply AWp.draw (id := 12) [[], [0], [0, 1], [0, 1, 2], [0, 1, 2, 3], [0, 1, 2], [0, 1, 2, 5], [0, 1, 2, 3, 4, 5, 6], [0, 1, 2, 3, 4, 5, 6, 7], [0, 1, 2], [0, 1, 2, 3, 4, 5, 6, 7, 8, 9], [0, 1, 2, 3, 4, 5, 6, 7, 8, 9, 10], [0, 1, 2, 3, 4, 5, 6, 7, 8, 9, 10, 11]] [] (by kernel_rfl) (by kernel_rfl) (by simp [apartW, unordB, cC] <;> omega)) | (apply Xg.s; constructor)) | (apply Ab.K.at_; exact at_) | (apply Ab.K.acall; first | assumption | first | exact c41 | exact c22 | exact c42y) | (apply Ab.Rg.mk; omega) | (apply Ab.Lt.mk; first | decide | (simp; done) | (simp; omega) | first | omega | (show (0 + 5 : Nat) < 5 + 1; decide)) | (apply Ab.Get.mk; first | rfl | first | rfl) | (apply Ab.Nm.mk; first | first | exact Eq.trans (congrArg (fun z => List.take _ (List.drop (z * 5) cs)) (Int.toNat_natCast i')) hE | exact (show ((kc x).drop 0).take 5 = kc x from rfl) | exact Eq.trans (congrArg (fun z => List.take _ (List.drop (z * 5) cs)) (show ((i' : Int) - 1).toNat = i' - 1 from by omega)) hEy | exact nrm_) | (apply Xg.s; constructor) | (apply Ab.asm; assumption) | rfl | infer_instance | decide))
          all_goals ((first | apply RetQ.ret | apply RetQ.normal); (case he => exact evr_); (case hg => rfl))
          all_goals first | rfl | (rw [← hs2]; exact Keeps.fr F2 (plR.nm rfl))
    · have hno : mvB nodes L = false := mvB_no fun h => hok (hnx.1 (LP.of h.2 _)).1
      rw [hno]
      rcases ok_not hok with k | k | k | k | k | k | k
      all_goals (try obtain ⟨k1, k⟩ := k)
      all_goals (try obtain ⟨k2, k⟩ := k)
      all_goals (try obtain ⟨k3, k⟩ := k)
      all_goals (try obtain ⟨k4, k⟩ := k)
      all_goals (try obtain ⟨k5, k⟩ := k)
      all_goals (try obtain ⟨k6, k⟩ := k)
      all_goals (repeat' (first | (apply Ab.K.ev; exact ev_) | (apply Ab.K.aops; first | (apply Xg.s; constructor) | (apply Ab.S.guardU; (case hd => rfl); (case hb => (exact ev_; done))) | apply Ab.S.guardG) | (apply Ab.K.aop; first | (first | (apply Ab.O.allocA (l := kc ⟨0, 0, 0, 0, false⟩) M; (case hid => exact T.free (Nat.le_refl _)); (case hp => rfl)) | (apply Ab.O.storeAll; (case hz => rfl); (case hx => exact ev_); (case hy => exact ev_); (case hs => exact at_); (case hl => rfl); (case hc => rfl))) | (apply Og.s; constructor)) | (apply Ab.K.gk; first | (apply Xg.s; constructor) | (apply Ab.gY; case hw => assumption) | (apply Ab.gNT; case hw => assumption) | (apply Ab.gNF; case hw => assumption) | ((first | apply Ab.gD | apply Ab.gDN); all_goals (intro _ _; (first | contradiction | (exfalso; omega) | skip)))) | (apply Ab.K.awp; first | (apply Xg.s; constructor)) | (apply Ab.K.at_; exact at_) | (apply Ab.K.acall; first | assumption | first | exact c41 | exact c22) | (apply Ab.Rg.mk; omega) | (apply Ab.Lt.mk; first | decide | (simp; done) | (simp; omega) | first | omega | (show (0 + 5 : Nat) < 5 + 1; decide)) | (apply Ab.Get.mk; first | rfl | first | rfl) | (apply Ab.Nm.mk; first | first | exact Eq.trans (congrArg (fun z => List.take _ (List.drop (z * 5) cs)) (Int.toNat_natCast i')) hE | exact (show ((kc x).drop 0).take 5 = kc x from rfl) | exact Eq.trans (congrArg (fun z => List.take _ (List.drop (z * 5) cs)) (show ((i' : Int) - 1).toNat = i' - 1 from by omega)) hEy | exact nrm_) | (apply Xg.s; constructor) | (apply Ab.asm; assumption) | rfl | infer_instance | decide))
      all_goals ((first | apply RetQ.ret | apply RetQ.normal); (case he => exact evr_); (case hg => rfl))
      all_goals first | rfl | (rw [← hs2]; exact Keeps.fr F2 (plR.nm rfl))
  · have hLO : LOk nodes L := P.all (by omega)
    have hyes : mvB nodes L = true := mvB_iff.2 ⟨hNO, hLO⟩
    rw [hyes]

    (repeat' (first | (apply Ab.K.ev; exact ev_) | (apply Ab.K.aops; first | (apply Xg.s; constructor) | (apply Ab.S.guardU; (case hd => rfl); (case hb => (exact ev_; done))) | apply Ab.S.guardG) | (apply Ab.K.aop; first | (apply Og.s; constructor)) | (apply Ab.K.gk; first | (apply Xg.s; constructor) | (apply Ab.gY; case hw => assumption) | (apply Ab.gNT; case hw => assumption) | (apply Ab.gNF; case hw => assumption) | ((first | apply Ab.gD | apply Ab.gDN); all_goals (intro _ _; (first | contradiction | (exfalso; omega) | skip)))) | (apply Ab.K.awp; first | (apply Xg.s; constructor)) | (apply Ab.K.at_; exact at_) | (apply Ab.K.acall; first | assumption | fail) | (apply Ab.Rg.mk; omega) | (apply Ab.Lt.mk; first | decide | (simp; done) | (simp; omega) | first | omega | (show (0 + 5 : Nat) < 5 + 1; decide)) | (apply Ab.Get.mk; first | rfl | first | rfl) | (apply Ab.Nm.mk; first | first | exact Eq.trans (congrArg (fun z => List.take _ (List.drop (z * 5) cs)) (Int.toNat_natCast i')) hE | exact (show ((kc x).drop 0).take 5 = kc x from rfl) | exact Eq.trans (congrArg (fun z => List.take _ (List.drop (z * 5) cs)) (show ((i' : Int) - 1).toNat = i' - 1 from by omega)) hEy | exact nrm_) | (apply Xg.s; constructor) | (apply Ab.asm; assumption) | rfl | infer_instance | decide))
    all_goals ((first | apply RetQ.ret | apply RetQ.normal); (case he => exact evr_); (case hg => rfl))
    all_goals first | rfl | exact Keeps.fr F (plR.nm rfl)
end Go.Proofs.Ytdbnpghckgmaoaa

/- views: where a link is told, by halves. -/
namespace Go.Proofs.Ytdbnpghckgmaoaa
set_option linter.unusedVariables false
set_option linter.unusedSimpArgs false
set_option linter.unusedSectionVars false
open Go.RowKit Ab TP VP
instance : HasTD Try.prog 89 ⟨.int .u64, 1, 8, .int .u64 0⟩ := ⟨by kernel_rfl⟩

attribute [local irreducible] AOps AOpsD AOp AWp put nargs AHeap.set At Free ACall ACallE thenQ blockQ roundQ RetQ RetE Src

theorem half_shr (a : Int) (h : 0 ≤ a) : aint .shr .u64 a .u64 1 = some (.int .u64 (a / 2)) := by
  have : (2 : Int) ^ (min (1 : Int).toNat IntKind.u64.bits) = 2 := by decide
  simp only [aint, this]
  rw [if_pos (by decide), Int.fdiv_eq_ediv_of_nonneg _ (by decide)]
theorem ahead_no {a b t : Kn} (h : VP.ahead a b) (ht : ¬ VP.ahead a t) : ¬ VP.ahead b t := fun k => ht (ahead_trans h k)
set_option maxHeartbeats 4000000 in
theorem searchV {s : AHeap} {B : Option Addr} {m d : Nat} {ol : Option Nat} {L : List Kn} {t : Kn} (hL : KA s (.slice B m d) ol L) (hP : L.Pairwise VP.ahead) (hm : m ≤ 100000) :
    ACallE Try.prog 55 [.slice B m d, .agg (kc t).toArray, .func (.func 56) #[] #[]] s (fun v s' => s' = s ∧ ∃ (i : Nat) (f : Bool), v = .tuple #[.int .i64 i, .bool f] ∧ ((f = true ∧ ∃ r, L[i]? = some r ∧ r.node = t.node ∧ r.peer = t.peer) ∨ (f = false ∧ ∀ r ∈ L, ¬ (r.node = t.node ∧ r.peer = t.peer)))) := by
  have hml : m = L.length := by obtain ⟨_, _, e⟩ := hL.isl; injection e
  have hpi := List.pairwise_iff_getElem.1 hP
  refine ACallE.make Try.func55 rfl (by kernel_rfl) (by decide) rfl (fun N hN0 => ?_)
  have hT : Top N s := hN0
  (repeat' (first | (apply Ab.K.ev; exact ev_) | (apply Ab.K.aops; first | (apply Xg.s; constructor) | (apply Ab.S.guardU; (case hd => rfl); (case hb => (exact ev_; done))) | apply Ab.S.guardG) | (apply Ab.K.aop; first | (apply Ab.O.boxA (l := kc t) N; (case hx => exact ev_); (case hid => exact hT.free (Nat.le_refl _))) | (apply Og.s; constructor)) | (apply Ab.K.gk; first | (apply Xg.s; constructor) | (apply Ab.gY; case hw => assumption) | (apply Ab.gNT; case hw => assumption) | (apply Ab.gNF; case hw => assumption) | ((first | apply Ab.gD | apply Ab.gDN); all_goals (intro _ _; (first | contradiction | (exfalso; omega) | skip)))) | (apply Ab.K.awp; first | (apply Xg.s; constructor)) | (apply Ab.K.at_; exact at_) | (apply Ab.K.acall; first | assumption | fail) | (apply Ab.Rg.mk; omega) | (apply Ab.Lt.mk; first | decide | (simp; done) | (simp; omega) | fail) | (apply Ab.Get.mk; first | rfl | fail) | (apply Ab.Nm.mk; first | exact nrm_) | (apply Xg.s; constructor) | (apply Ab.asm; assumption) | rfl | infer_instance | decide))
  refine AWp.loop (fun kk tm s1 => ∃ (i j : Nat), Ev tm (.tmp 0) (.slice B m d) ∧ Ev tm (.tmp 2) (.func (.func 56) #[] #[]) ∧ Ev tm (.tmp 4) (.pointer (some ⟨N, 0, none⟩)) ∧ Ev tm (.tmp 8) (.int .i64 m) ∧ Ev tm (.tmp 9) (.int .i64 i) ∧ Ev tm (.tmp 10) (.int .i64 j) ∧ At s1 N (.cells true 1 (kc t)) ∧ Fr s1 s [] ∧ i ≤ j ∧ j ≤ m ∧ (∀ k r, k < i → L[k]? = some r → VP.ahead r t) ∧ (∀ k r, j ≤ k → L[k]? = some r → ¬ VP.ahead r t) ∧ kk = j - i) m ?_ ?_
  · exact ⟨0, m, by exact ev_, by exact ev_, by exact ev_, by exact ev_, by exact ev_, by exact ev_, by exact at_, by exact fr_, by omega, Nat.le_refl _, fun k r h => by omega, fun k r h hr => by have := (List.getElem?_eq_some_iff.1 hr).1; omega, rfl⟩
  rintro kk tm s1 ⟨i, j, e0, e2, e4, e8, e9, e10, a4, F, hij, hj, hlo, hhi, hkk⟩
  by_cases hlt : i < j
  · obtain ⟨k, hk⟩ : ∃ k, k = (i + j) / 2 := ⟨_, rfl⟩
    have hkb : i ≤ k ∧ k < j := by omega
    have hsh := half_shr ((i : Int) + j) (by omega)
    have hkz : ((i : Int) + j) / 2 = (k : Int) := by omega
    rw [hkz] at hsh
    have w1 : IntKind.u64.wrap ((i : Int) + j) = (i : Int) + j := IntWalk.u64_in _ (by omega)
    have w2 : IntKind.i64.wrap (k : Int) = (k : Int) := IntWalk.i64_in _ (by omega)
    obtain ⟨x, hx⟩ : ∃ x, L[k]? = some x := ⟨_, List.getElem?_eq_getElem (by omega)⟩
    obtain ⟨q, rw1, cs, rfl, _, _, hq, hcs, hE, _⟩ := (hL.fr F).elt hx
    have c56 : ∀ s : AHeap, ACall Try.prog 56 [.agg (kc x).toArray, .agg (kc t).toArray] s (.int .i64 (ord2 x t)) s := fun s => orderV
    have hon := ord2_neg (a := x) (b := t)



    by_cases hah : VP.ahead x t
    · have hneg : ord2 x t < 0 := hon.2 hah
      (repeat' (first | (apply Ab.K.ev; exact ev_) | (apply Ab.K.aops; first | (apply Xg.s; constructor) | (apply Ab.S.guardU; (case hd => rfl); (case hb => (exact ev_; done))) | apply Ab.S.guardG) | (apply Ab.K.aop; first | (first | (apply Ab.O.convW (hw := w1); (case hx => exact ev_)) | (apply Ab.O.convW (hw := w2); (case hx => exact ev_)) | (apply Ab.O.int; (case hx => exact ev_); (case hy => exact ev_); (case hv => exact hsh)) | (apply Ab.O.call; (case hf => exact ev_); (case ha => exact evs_); (case hc => exact c56 _))) | (apply Og.s; constructor)) | (apply Ab.K.gk; first | (apply Xg.s; constructor) | (apply Ab.gY; case hw => assumption) | (apply Ab.gNT; case hw => assumption) | (apply Ab.gNF; case hw => assumption) | ((first | apply Ab.gD | apply Ab.gDN); all_goals (intro _ _; (first | contradiction | (exfalso; omega) | skip)))) | (apply Ab.K.aopsD; first | (apply Ab.D.q0t; (case hw => rfl); (case hot => rfl)) | (apply Ab.D.w1t; (case hw => rfl); (case hot => rfl)) | (apply Ab.D.q0; (case hw => rfl); intro _ _) | (apply Ab.D.w1n; (case hw => rfl); intro _ _) | (apply Ab.D.w2n; (case hw => rfl); intro _ _) | (apply Xg.s; constructor) | (apply Ab.D.guardU; (case hd => rfl); (case hb => (exact ev_; done))) | apply Ab.D.guardG) | exact ⟨rfl, rfl⟩ | (apply Ab.K.awp; first | (apply AWp.draw (id := 5) [[], [], [], [1, 2], [1, 2, 3], [], [0, 1, 2, 3, 4, 5], [0, 1, 2, 3, 4, 5, 6]] [] (by kernel_rfl) (by kernel_rfl) (by simp [apartW, unordB, cC] <;> omega)) | (apply Xg.s; constructor)) | (apply Ab.K.at_; exact at_) | (apply Ab.K.acall; first | assumption | fail) | (apply Ab.Rg.mk; omega) | (apply Ab.Lt.mk; first | decide | (simp; done) | (simp; omega) | first | omega | (show (0 + 5 : Nat) < 5 + 1; decide)) | (apply Ab.Get.mk; first | rfl | fail) | (apply Ab.Nm.mk; first | first | exact Eq.trans (congrArg (fun z => List.take _ (List.drop (z * 5) cs)) (Int.toNat_natCast k)) hE | exact (show ((kc t).drop 0).take 5 = kc t from rfl) | exact nrm_) | (apply Xg.s; constructor) | (apply Ab.asm; assumption) | rfl | infer_instance | decide))
      refine X.roundN (j - (k + 1)) (by omega) ⟨k + 1, j, by exact ev_, by exact ev_, by exact ev_, by exact ev_, by exact ev_, by exact ev_, a4, F, by omega, hj, fun k' r h1 h2 => ?_, hhi, rfl⟩
      by_cases hkk' : k' = k
      · subst hkk'; rw [hx] at h2; obtain rfl := Option.some.inj h2; exact hah
      · obtain ⟨a1, a2⟩ := List.getElem?_eq_some_iff.1 hx
        obtain ⟨b1, b2⟩ := List.getElem?_eq_some_iff.1 h2
        have := hpi k' k b1 a1 (by omega)
        rw [a2, b2] at this
        exact ahead_trans this hah
    · have hneg : ¬ ord2 x t < 0 := fun h => hah (hon.1 h)
      (repeat' (first | (apply Ab.K.ev; exact ev_) | (apply Ab.K.aops; first | (apply Xg.s; constructor) | (apply Ab.S.guardU; (case hd => rfl); (case hb => (exact ev_; done))) | apply Ab.S.guardG) | (apply Ab.K.aop; first | (first | (apply Ab.O.convW (hw := w1); (case hx => exact ev_)) | (apply Ab.O.convW (hw := w2); (case hx => exact ev_)) | (apply Ab.O.int; (case hx => exact ev_); (case hy => exact ev_); (case hv => exact hsh)) | (apply Ab.O.call; (case hf => exact ev_); (case ha => exact evs_); (case hc => exact c56 _))) | (apply Og.s; constructor)) | (apply Ab.K.gk; first | (apply Xg.s; constructor) | (apply Ab.gY; case hw => assumption) | (apply Ab.gNT; case hw => assumption) | (apply Ab.gNF; case hw => assumption) | ((first | apply Ab.gD | apply Ab.gDN); all_goals (intro _ _; (first | contradiction | (exfalso; omega) | skip)))) | (apply Ab.K.aopsD; first | (apply Ab.D.q0t; (case hw => rfl); (case hot => rfl)) | (apply Ab.D.w1t; (case hw => rfl); (case hot => rfl)) | (apply Ab.D.q0; (case hw => rfl); intro _ _) | (apply Ab.D.w1n; (case hw => rfl); intro _ _) | (apply Ab.D.w2n; (case hw => rfl); intro _ _) | (apply Xg.s; constructor) | (apply Ab.D.guardU; (case hd => rfl); (case hb => (exact ev_; done))) | apply Ab.D.guardG) | exact ⟨rfl, rfl⟩ | (apply Ab.K.awp; first | (apply AWp.draw (id := 5) [[], [], [], [1, 2], [1, 2, 3], [], [0, 1, 2, 3, 4, 5], [0, 1, 2, 3, 4, 5, 6]] [] (by kernel_rfl) (by kernel_rfl) (by simp [apartW, unordB, cC] <;> omega)) | (apply Xg.s; constructor)) | (apply Ab.K.at_; exact at_) | (apply Ab.K.acall; first | assumption | fail) | (apply Ab.Rg.mk; omega) | (apply Ab.Lt.mk; first | decide | (simp; done) | (simp; omega) | first | omega | (show (0 + 5 : Nat) < 5 + 1; decide)) | (apply Ab.Get.mk; first | rfl | fail) | (apply Ab.Nm.mk; first | first | exact Eq.trans (congrArg (fun z => List.take _ (List.drop (z * 5) cs)) (Int.toNat_natCast k)) hE | exact (show ((kc t).drop 0).take 5 = kc t from rfl) | exact nrm_) | (apply Xg.s; constructor) | (apply Ab.asm; assumption) | rfl | infer_instance | decide))
      refine X.roundN (k - i) (by omega) ⟨i, k, by exact ev_, by exact ev_, by exact ev_, by exact ev_, by exact ev_, by exact ev_, a4, F, by omega, by omega, hlo, fun k' r h1 h2 => ?_, rfl⟩
      by_cases hkk' : k' = k
      · subst hkk'; rw [hx] at h2; obtain rfl := Option.some.inj h2; exact hah
      · obtain ⟨a1, a2⟩ := List.getElem?_eq_some_iff.1 hx
        obtain ⟨b1, b2⟩ := List.getElem?_eq_some_iff.1 h2
        have := hpi k k' a1 b1 (by omega)
        rw [a2, b2] at this
        exact ahead_no this hah

  · obtain rfl : i = j := by omega
    have hall : (∃ r, L[i]? = some r ∧ r.node = t.node ∧ r.peer = t.peer) ∨ ∀ r ∈ L, ¬ (r.node = t.node ∧ r.peer = t.peer) := by
      by_cases he : ∃ r, L[i]? = some r ∧ r.node = t.node ∧ r.peer = t.peer
      · exact .inl he
      · refine .inr fun r hr hkey => ?_
        obtain ⟨k, hk⟩ := List.mem_iff_getElem?.1 hr
        rcases Nat.lt_trichotomy k i with h1 | rfl | h1
        · have := hlo k r h1 hk; unfold VP.ahead at this; omega
        · exact he ⟨r, hk, hkey⟩
        · obtain ⟨a1, a2⟩ := List.getElem?_eq_some_iff.1 hk
          have hx0 : L[i]? = some (L[i]'(by omega)) := List.getElem?_eq_getElem (by omega)
          have h2 := hhi i _ (Nat.le_refl _) hx0
          have h3 := hpi i k (by omega) a1 h1
          rw [a2] at h3
          apply h2; unfold VP.ahead at h3 ⊢; omega
    by_cases him : i < m
    · obtain ⟨x, hx⟩ : ∃ x, L[i]? = some x := ⟨_, List.getElem?_eq_getElem (by omega)⟩
      obtain ⟨q, rw1, cs, rfl, _, _, hq, hcs, hE, _⟩ := (hL.fr F).elt hx
      have c56 : ∀ s : AHeap, ACall Try.prog 56 [.agg (kc x).toArray, .agg (kc t).toArray] s (.int .i64 (ord2 x t)) s := fun s => orderV
      have hz := ord2_zero (a := x) (b := t)

      by_cases hkey : x.node = t.node ∧ x.peer = t.peer
      · have h0 : ord2 x t = 0 := hz.2 hkey
        rw [h0] at c56
        (repeat' (first | (apply Ab.K.ev; exact ev_) | (apply Ab.K.aops; first | (apply Xg.s; constructor) | (apply Ab.S.guardU; (case hd => rfl); (case hb => (exact ev_; done))) | apply Ab.S.guardG) | (apply Ab.K.aop; first | (apply Ab.O.call; (case hf => exact ev_); (case ha => exact evs_); (case hc => exact c56 _)) | (apply Og.s; constructor)) | (apply Ab.K.gk; first | (apply Xg.s; constructor) | (apply Ab.gY; case hw => assumption) | (apply Ab.gNT; case hw => assumption) | (apply Ab.gNF; case hw => assumption) | ((first | apply Ab.gD | apply Ab.gDN); all_goals (intro _ _; (first | contradiction | (exfalso; omega) | skip)))) | (apply Ab.K.aopsD; first | (apply Ab.D.q0t; (case hw => rfl); (case hot => rfl)) | (apply Ab.D.w1t; (case hw => rfl); (case hot => rfl)) | (apply Ab.D.q0; (case hw => rfl); intro _ _) | (apply Ab.D.w1n; (case hw => rfl); intro _ _) | (apply Ab.D.w2n; (case hw => rfl); intro _ _) | (apply Xg.s; constructor) | (apply Ab.D.guardU; (case hd => rfl); (case hb => (exact ev_; done))) | apply Ab.D.guardG) | exact ⟨rfl, rfl⟩ | (apply Ab.K.awp; first | (apply AWp.draw (id := 8) [[], [], [], [1, 2], [1, 2, 3], [1, 2, 3, 4], [1, 2, 3, 4], [1, 2, 3, 4], [1, 2, 3, 4, 6, 7], [1, 2, 3, 4, 6, 7, 8], [1, 2, 3, 4], [1, 2, 3, 4, 5, 6, 7, 8, 9, 10], [1, 2, 3, 4, 5, 6, 7, 8, 9, 10, 11], [1, 2, 3, 4, 5, 6, 7, 8, 9, 10, 11, 12], [0, 1, 2, 3, 4, 5, 6, 7, 8, 9, 10, 11], [0, 1, 2, 3, 4, 5, 6, 7, 8, 9, 10, 11, 12, 13, 14]] [] (by kernel_rfl) (by kernel_rfl) (by simp [apartW, unordB, cC] <;> omega)) | (apply Xg.s; constructor)) | (apply Ab.K.at_; exact at_) | (apply Ab.K.acall; first | assumption | fail) | (apply Ab.Rg.mk; omega) | (apply Ab.Lt.mk; first | decide | (simp; done) | (simp; omega) | first | omega | (show (0 + 5 : Nat) < 5 + 1; decide)) | (apply Ab.Get.mk; first | rfl | fail) | (apply Ab.Nm.mk; first | first | exact Eq.trans (congrArg (fun z => List.take _ (List.drop (z * 5) cs)) (Int.toNat_natCast i)) hE | exact (show ((kc t).drop 0).take 5 = kc t from rfl) | exact nrm_) | (apply Xg.s; constructor) | (apply Ab.asm; assumption) | rfl | infer_instance | decide))
        all_goals ((first | apply RetE.ret | apply RetE.normal); (case he => exact evr_); (case hg => rfl))
        · exact ⟨rfl, i, true, by simp [resV], .inl ⟨rfl, x, hx, hkey⟩⟩
        · exact Keeps.fr F (plR.nm rfl)
      · have h0 : ¬ ord2 x t = 0 := fun h => hkey (hz.1 h)
        have hno := hall.resolve_left fun ⟨r, h1, h2⟩ => by rw [hx] at h1; obtain rfl := Option.some.inj h1; exact hkey h2
        (repeat' (first | (apply Ab.K.ev; exact ev_) | (apply Ab.K.aops; first | (apply Xg.s; constructor) | (apply Ab.S.guardU; (case hd => rfl); (case hb => (exact ev_; done))) | apply Ab.S.guardG) | (apply Ab.K.aop; first | (apply Ab.O.call; (case hf => exact ev_); (case ha => exact evs_); (case hc => exact c56 _)) | (apply Og.s; constructor)) | (apply Ab.K.gk; first | (apply Xg.s; constructor) | (apply Ab.gY; case hw => assumption) | (apply Ab.gNT; case hw => assumption) | (apply Ab.gNF; case hw => assumption) | ((first | apply Ab.gD | apply Ab.gDN); all_goals (intro _ _; (first | contradiction | (exfalso; omega) | skip)))) | (apply Ab.K.aopsD; first | (apply Ab.D.q0t; (case hw => rfl); (case hot => rfl)) | (apply Ab.D.w1t; (case hw => rfl); (case hot => rfl)) | (apply Ab.D.q0; (case hw => rfl); intro _ _) | (apply Ab.D.w1n; (case hw => rfl); intro _ _) | (apply Ab.D.w2n; (case hw => rfl); intro _ _) | (apply Xg.s; constructor) | (apply Ab.D.guardU; (case hd => rfl); (case hb => (exact ev_; done))) | apply Ab.D.guardG) | exact ⟨rfl, rfl⟩ | (apply Ab.K.awp; first | (apply AWp.draw (id := 8) [[], [], [], [1, 2], [1, 2, 3], [1, 2, 3, 4], [1, 2, 3, 4], [1, 2, 3, 4], [1, 2, 3, 4, 6, 7], [1, 2, 3, 4, 6, 7, 8], [1, 2, 3, 4], [1, 2, 3, 4, 5, 6, 7, 8, 9, 10], [1, 2, 3, 4, 5, 6, 7, 8, 9, 10, 11], [1, 2, 3, 4, 5, 6, 7, 8, 9, 10, 11, 12], [0, 1, 2, 3, 4, 5, 6, 7, 8, 9, 10, 11], [0, 1, 2, 3, 4, 5, 6, 7, 8, 9, 10, 11, 12, 13, 14]] [] (by kernel_rfl) (by kernel_rfl) (by simp [apartW, unordB, cC] <;> omega)) | (apply Xg.s; constructor)) | (apply Ab.K.at_; exact at_) | (apply Ab.K.acall; first | assumption | fail) | (apply Ab.Rg.mk; omega) | (apply Ab.Lt.mk; first | decide | (simp; done) | (simp; omega) | first | omega | (show (0 + 5 : Nat) < 5 + 1; decide)) | (apply Ab.Get.mk; first | rfl | fail) | (apply Ab.Nm.mk; first | first | exact Eq.trans (congrArg (fun z => List.take _ (List.drop (z * 5) cs)) (Int.toNat_natCast i)) hE | exact (show ((kc t).drop 0).take 5 = kc t from rfl) | exact nrm_) | (apply Xg.s; constructor) | (apply Ab.asm; assumption) | rfl | infer_instance | decide))
        all_goals ((first | apply RetE.ret | apply RetE.normal); (case he => exact evr_); (case hg => rfl))
        · exact ⟨rfl, i, false, by simp [resV, h0], .inr ⟨rfl, hno⟩⟩
        · exact Keeps.fr F (plR.nm rfl)
    · have hno := hall.resolve_left fun ⟨r, h1, h2⟩ => by have := (List.getElem?_eq_some_iff.1 h1).1; omega
      (repeat' (first | (apply Ab.K.ev; exact ev_) | (apply Ab.K.aops; first | (apply Xg.s; constructor) | (apply Ab.S.guardU; (case hd => rfl); (case hb => (exact ev_; done))) | apply Ab.S.guardG) | (apply Ab.K.aop; first | (apply Og.s; constructor)) | (apply Ab.K.gk; first | (apply Xg.s; constructor) | (apply Ab.gY; case hw => assumption) | (apply Ab.gNT; case hw => assumption) | (apply Ab.gNF; case hw => assumption) | ((first | apply Ab.gD | apply Ab.gDN); all_goals (intro _ _; (first | contradiction | (exfalso; omega) | skip)))) | (apply Ab.K.aopsD; first | (apply Ab.D.q0t; (case hw => rfl); (case hot => rfl)) | (apply Ab.D.w1t; (case hw => rfl); (case hot => rfl)) | (apply Ab.D.q0; (case hw => rfl); intro _ _) | (apply Ab.D.w1n; (case hw => rfl); intro _ _) | (apply Ab.D.w2n; (case hw => rfl); intro _ _) | (apply Xg.s; constructor) | (apply Ab.D.guardU; (case hd => rfl); (case hb => (exact ev_; done))) | apply Ab.D.guardG) | exact ⟨rfl, rfl⟩ | (apply Ab.K.awp; first | (apply AWp.draw (id := 8) [[], [], [], [1, 2], [1, 2, 3], [1, 2, 3, 4], [1, 2, 3, 4], [1, 2, 3, 4], [1, 2, 3, 4, 6, 7], [1, 2, 3, 4, 6, 7, 8], [1, 2, 3, 4], [1, 2, 3, 4, 5, 6, 7, 8, 9, 10], [1, 2, 3, 4, 5, 6, 7, 8, 9, 10, 11], [1, 2, 3, 4, 5, 6, 7, 8, 9, 10, 11, 12], [0, 1, 2, 3, 4, 5, 6, 7, 8, 9, 10, 11], [0, 1, 2, 3, 4, 5, 6, 7, 8, 9, 10, 11, 12, 13, 14]] [] (by kernel_rfl) (by kernel_rfl) (by simp [apartW, unordB, cC] <;> omega)) | (apply Xg.s; constructor)) | (apply Ab.K.at_; exact at_) | (apply Ab.K.acall; first | assumption | fail) | (apply Ab.Rg.mk; omega) | (apply Ab.Lt.mk; first | decide | (simp; done) | (simp; omega) | first | omega | (show (0 + 5 : Nat) < 5 + 1; decide)) | (apply Ab.Get.mk; first | rfl | fail) | (apply Ab.Nm.mk; first | first | exact Eq.trans (congrArg (fun z => List.take _ (List.drop (z * 5) cs)) (Int.toNat_natCast i)) hE | exact (show ((kc t).drop 0).take 5 = kc t from rfl) | exact nrm_) | (apply Xg.s; constructor) | (apply Ab.asm; assumption) | rfl | infer_instance | decide))
      all_goals ((first | apply RetE.ret | apply RetE.normal); (case he => exact evr_); (case hg => rfl))
      · exact ⟨rfl, i, false, by simp [resV], .inr ⟨rfl, hno⟩⟩
      · exact Keeps.fr F (plR.nm rfl)
end Go.Proofs.Ytdbnpghckgmaoaa

/- views: the links that both ends know, by the document. -/
namespace Go.Proofs.Ytdbnpghckgmaoaa
set_option linter.unusedVariables false
set_option linter.unusedSimpArgs false
set_option linter.unusedSectionVars false
open Go.RowKit Ab TP VP
theorem not5 {a b c d e : Prop} (h : ¬ (a ∧ b ∧ c ∧ d ∧ e)) : ¬ a ∨ (a ∧ ¬ b) ∨ (a ∧ b ∧ ¬ c) ∨ (a ∧ b ∧ c ∧ ¬ d) ∨ (a ∧ b ∧ c ∧ d ∧ ¬ e) := by
  by_cases h1 : a
  · by_cases h2 : b
    · by_cases h3 : c
      · by_cases h4 : d
        · exact .inr (.inr (.inr (.inr ⟨h1, h2, h3, h4, fun h5 => h ⟨h1, h2, h3, h4, h5⟩⟩)))
        · exact .inr (.inr (.inr (.inl ⟨h1, h2, h3, h4⟩)))
      · exact .inr (.inr (.inl ⟨h1, h2, h3⟩))
    · exact .inr (.inl ⟨h1, h2⟩)
  · exact .inl h1
theorem fm_snoc {L : List Kn} {x y : Kn} : (L ++ [y]).filterMap (mt x) = L.filterMap (mt x) ++ (mt x y).toList := by
  rw [List.filterMap_append]
  cases h : mt x y <;> simp [h]
theorem Gr_some {s : AHeap} {es N k : Nat} {v : Value} {on : Option Nat} {xs : List Value} (G : Gr s es N v on k xs) (h : on.isSome = true) : ∃ q, v = .slice (some ⟨q, 0, none⟩) k k ∧ At s q (.cells true es xs) ∧ N ≤ q := by
  rcases G with ⟨_, rfl, _, _⟩ | ⟨q, _, h1, h2, _, h3⟩
  · cases h
  · exact ⟨q, h1, h2, h3⟩
attribute [local irreducible] AOps AOpsD AOp AWp put nargs AHeap.set At Free ACall ACallE thenQ blockQ roundQ RetQ RetE Src Gr

set_option maxHeartbeats 8000000 in
theorem inner09 {s : AHeap} {A B : Option Addr} {n c m d : Nat} {ol : Option Nat} {nodes : List Int} {L : List Kn} {o : Nat} (hL : KA s (.slice B m d) ol L) (hm : m ≤ 100000) (hLO : LOk nodes L) (ho : s o = none) :
    ACall Try.prog 28 [.agg #[.slice A n c, .slice B m d]] s (.slice (some ⟨o, 0, none⟩) (inn L).length (inn L).length) (s.set o (.cells true 5 (kcs (inn L)))) := by
  have hml : m = L.length := by obtain ⟨_, _, e⟩ := hL.isl; injection e
  refine ACall.make Try.func28 rfl (by kernel_rfl) (by decide) rfl (fun N hN0 => ?_)
  have hT : Top N s := hN0
  have F1 : Fr (s.set N (.cells true 1 [.slice A n c, .slice B m d])) s [] := Fr.new (hT.free (Nat.le_refl _)) (Fr.refl _ _)
  (repeat' (first | (apply Ab.K.ev; exact ev_) | (apply Ab.K.aops; first | (apply Xg.s; constructor) | (apply Ab.S.guardU; (case hd => rfl); (case hb => (exact ev_; done))) | apply Ab.S.guardG) | (apply Ab.K.aop; first | (first | (apply Ab.O.boxA (l := [.slice A n c, .slice B m d]) N; (case hx => exact ev_); (case hid => exact hT.free (Nat.le_refl _))) | (apply Ab.O.build0 (N + 1) (te := ⟨.struct [(0, 3), (1, 3), (2, 3), (3, 3), (4, 4)], 5, 40, .agg #[.int .i64 0, .int .i64 0, .int .i64 0, .int .i64 0, .bool false]⟩); (case hz => exact ⟨rfl, rfl⟩); (case hid => exact frees_))) | (apply Og.s; constructor)) | (apply Ab.K.gk; first | (apply Xg.s; constructor) | (apply Ab.gY; case hw => assumption) | (apply Ab.gNT; case hw => assumption) | (apply Ab.gNF; case hw => assumption) | ((first | apply Ab.gD | apply Ab.gDN); all_goals (intro _ _; (first | contradiction | (exfalso; omega) | skip)))) | (apply Ab.K.awp; first | (apply Xg.s; constructor)) | (apply Ab.K.at_; exact at_) | (apply Ab.K.acall; first | assumption | fail) | (apply Ab.Rg.mk; omega) | (apply Ab.Lt.mk; first | decide | (simp; done) | (simp; omega) | fail) | (apply Ab.Get.mk; first | rfl | fail) | (apply Ab.Nm.mk; first | exact nrm_) | (apply Xg.s; constructor) | (apply Ab.asm; assumption) | rfl | infer_instance | decide))
  refine AWp.loop (fun kk tm s1 => ∃ (i k M : Nat) (v : Value) (ov : Option Nat) (r : List Kn), Ev tm (.tmp 1) (.pointer (some ⟨N, 0, none⟩)) ∧ Ev tm (.tmp 3) v ∧ Ev tm (.tmp 4) (.int .i64 i) ∧ At s1 N (.cells true 1 [.slice A n c, .slice B m d]) ∧ Gr s1 5 (N + 1) v ov k (kcs r) ∧ ov.isSome = true ∧ k = r.length ∧ r = (L.take i).flatMap (fun x => L.filterMap (mt x)) ∧ Fr s1 s [] ∧ Top M s1 ∧ N + 1 ≤ M ∧ i ≤ m ∧ kk = m - i) m ?_ ?_
  · exact ⟨0, 0, N + 2, _, _, [], by exact ev_, by exact ev_, by exact ev_, by exact at_, Gr.new (q := N + 1) At.hit rfl (Nat.le_refl _), rfl, rfl, rfl, by exact fr_, by exact top_, by omega, by omega, rfl⟩
  clear F1
  rintro kk tm s1 ⟨i, k, M, v, ov, r, e1, e3, e4, a1, G, hov, hk, hr, F, T, hMM, hi, hkk⟩
  by_cases hin : i < m
  · obtain ⟨x, hx⟩ : ∃ x, L[i]? = some x := ⟨_, List.getElem?_eq_getElem (by omega)⟩
    have htk : L.take (i + 1) = L.take i ++ [x] := by rw [List.take_add_one, hx]; rfl
    have hrl : r.length ≤ 100000 := by rw [hr]; exact Nat.le_trans (flatMap_len (inn_one hLO)) (by rw [List.length_take]; omega)
    have h1x := inn_one hLO x
    have hfin : (L.take (i + 1)).flatMap (fun x => L.filterMap (mt x)) = r ++ L.filterMap (mt x) := by rw [htk, List.flatMap_append, ← hr, List.flatMap_cons, List.flatMap_nil, List.append_nil]
    (repeat' (first | (apply Ab.K.ev; exact ev_) | (apply Ab.K.aops; first | (apply Xg.s; constructor) | (apply Ab.S.guardU; (case hd => rfl); (case hb => (exact ev_; done))) | apply Ab.S.guardG) | (apply Ab.K.aop; first | (apply Og.s; constructor)) | (apply Ab.K.gk; first | (apply Xg.s; constructor) | (apply Ab.gY; case hw => assumption) | (apply Ab.gNT; case hw => assumption) | (apply Ab.gNF; case hw => assumption) | ((first | apply Ab.gD | apply Ab.gDN); all_goals (intro _ _; (first | contradiction | (exfalso; omega) | skip)))) | (apply Ab.K.awp; first | (apply Xg.s; constructor)) | (apply Ab.K.at_; exact at_) | (apply Ab.K.acall; first | assumption | fail) | (apply Ab.Rg.mk; omega) | (apply Ab.Lt.mk; first | decide | (simp; done) | (simp; omega) | fail) | (apply Ab.Get.mk; first | rfl | fail) | (apply Ab.Nm.mk; first | exact nrm_) | (apply Xg.s; constructor) | (apply Ab.asm; assumption) | rfl | infer_instance | decide))
    refine AWp.loop (fun k2 tm s2 => ∃ (j k M : Nat) (v : Value) (ov : Option Nat) (r2 : List Kn), Ev tm (.tmp 1) (.pointer (some ⟨N, 0, none⟩)) ∧ Ev tm (.tmp 3) v ∧ Ev tm (.tmp 4) (.int .i64 i) ∧ Ev tm (.tmp 5) (.int .i64 j) ∧ At s2 N (.cells true 1 [.slice A n c, .slice B m d]) ∧ Gr s2 5 (N + 1) v ov k (kcs r2) ∧ ov.isSome = true ∧ k = r2.length ∧ r2 = r ++ (L.take j).filterMap (mt x) ∧ Fr s2 s [] ∧ Top M s2 ∧ N + 1 ≤ M ∧ j ≤ m ∧ k2 = m - j) m ?_ ?_
    · exact ⟨0, k, M, v, ov, r, by exact ev_, by exact ev_, by exact ev_, by exact ev_, a1, G, hov, hk, by simp, F, T, hMM, by omega, rfl⟩
    clear e1 e3 e4 a1 G hov hk hr F T hMM
    rintro k2 tm s2 ⟨j, k, M, v, ov, r2, e1, e3, e4, e5, a1, G, hov, hk, hr2, F, T, hMM, hj, hk2⟩
    have hlt := G.lt T
    have hge := G.from_
    have hr2l : r2.length ≤ 100001 := by
      rw [hr2, List.length_append]
      have := ((List.take_sublist j L).filterMap (mt x)).length_le
      omega
    by_cases hjn : j < m
    · obtain ⟨z, hz⟩ : ∃ z, L[j]? = some z := ⟨_, List.getElem?_eq_getElem (by omega)⟩
      have htkj : L.take (j + 1) = L.take j ++ [z] := by rw [List.take_add_one, hz]; rfl
      have hnext : r ++ (L.take (j + 1)).filterMap (mt x) = r2 ++ (mt x z).toList := by rw [htkj, fm_snoc, hr2, List.append_assoc]
      obtain ⟨q, rw1, cs, rfl, _, _, hq, hcs, hE, _⟩ := (hL.fr F).elt hx
      obtain ⟨q3, rw3, cs3, hqq, _, _, hq3, hcs3, hE3, _⟩ := (hL.fr F).elt hz
      obtain rfl : q = q3 := by have := Option.some.inj hqq; injection this
      have e2 := hq.eq.symm.trans hq3.eq
      injection e2 with e2
      injection e2 with _ _ e2
      subst e2
      have hqM := T.lt hq
      obtain ⟨s3, hs3⟩ : ∃ s3, s3 = (((s2.set M (.cells true 1 (kc ⟨0, 0, 0, 0, false⟩))).set (M + 1) (.cells true 1 (kc ⟨0, 0, 0, 0, false⟩))).set M (.cells true 1 (kc x))).set (M + 1) (.cells true 1 (kc z)) := ⟨_, rfl⟩
      have F3 : Fr s3 s [] := fun i hi c hc => by
        have := hT.lt (At.var hc)
        rw [hs3, AHeap.set_other _ _ (by omega), AHeap.set_other _ _ (by omega), AHeap.set_other _ _ (by omega), AHeap.set_other _ _ (by omega)]; exact F i hi c hc
      have T3 : Top (M + 2) s3 := by rw [hs3]; exact (((T.new).new).set (by omega)).set (by omega)
      have a13 : At s3 N (.cells true 1 [.slice A n c, .slice (some ⟨q, 0, none⟩) m d]) := by rw [hs3]; exact at_
      have aM : At s3 M (.cells true 1 (kc x)) := by rw [hs3]; exact at_
      have aM1 : At s3 (M + 1) (.cells true 1 (kc z)) := by rw [hs3]; exact at_
      have G3 : Gr s3 5 (N + 1) v ov k (kcs r2) := G.of_at fun q e => by
        have := hlt q e
        rw [hs3, AHeap.set_other _ _ (by omega), AHeap.set_other _ _ (by omega), AHeap.set_other _ _ (by omega), AHeap.set_other _ _ (by omega)]




      by_cases hmt : x.node < x.peer ∧ x.node = z.peer ∧ x.peer = z.node ∧ x.w = z.w ∧ x.ss = z.ss
      case neg =>
        have hr3 : r2 = r ++ (L.take (j + 1)).filterMap (mt x) := by rw [hnext]; unfold VP.mt; rw [if_neg hmt]; simp
        rcases not5 hmt with h | h | h | h | h
        all_goals (try obtain ⟨h1, h⟩ := h)
        all_goals (try obtain ⟨h2, h⟩ := h)
        all_goals (try obtain ⟨h3, h⟩ := h)
        all_goals (try obtain ⟨h4, h⟩ := h)
        all_goals
          (repeat' (first | (apply Ab.K.ev; exact ev_) | (apply Ab.K.aops; first | (apply Xg.s; constructor) | (apply Ab.S.guardU; (case hd => rfl); (case hb => (exact ev_; done))) | apply Ab.S.guardG) | (apply Ab.K.aop; first | (first | (apply Ab.O.allocA (l := kc ⟨0, 0, 0, 0, false⟩) M; (case hid => exact free_); (case hp => rfl)) | (apply Ab.O.allocA (l := kc ⟨0, 0, 0, 0, false⟩) (M + 1); (case hid => exact free_); (case hp => rfl)) | (apply Ab.O.storeAll; (case hz => rfl); (case hx => exact ev_); (case hy => exact ev_); (case hs => exact at_); (case hl => rfl); (case hc => rfl))) | (apply Og.s; constructor)) | (apply Ab.K.gk; first | (apply Xg.s; constructor) | (apply Ab.gY; case hw => assumption) | (apply Ab.gNT; case hw => assumption) | (apply Ab.gNF; case hw => assumption) | ((first | apply Ab.gD | apply Ab.gDN); all_goals (intro _ _; (first | contradiction | (exfalso; omega) | skip)))) | (apply Ab.K.aopsD; first | (apply Ab.D.q0t; (case hw => rfl); (case hot => rfl)) | (apply Ab.D.w1t; (case hw => rfl); (case hot => rfl)) | (apply Ab.D.q0; (case hw => rfl); intro _ _) | (apply Ab.D.w1n; (case hw => rfl); intro _ _) | (apply Ab.D.w2n; (case hw => rfl); intro _ _) | (apply Xg.s; constructor) | (apply Ab.D.guardU; (case hd => rfl); (case hb => (exact ev_; done))) | apply Ab.D.guardG) | exact ⟨rfl, rfl⟩ | (apply Ab.K.awp; first | (apply AWp.draw (id := 8) [[], [0], [], [0, 1, 2], [0, 1, 2, 3], [], [5], [], [5, 6, 7], [5, 6, 7, 8], [], [], [0, 1, 2, 3, 4, 10, 11], [0, 1, 2, 3, 4, 5, 6, 7, 8, 9, 10, 11, 12]] [(10, [M]), (11, [M + 1]), (12, [M]), (13, [M + 1])] (by kernel_rfl) (by kernel_rfl) (by simp [apartW, unordB, cC] <;> omega)) | (apply Xg.s; constructor)) | (apply Ab.K.at_; exact at_) | (apply Ab.K.acall; first | assumption | fail) | (apply Ab.Rg.mk; omega) | (apply Ab.Lt.mk; first | decide | (simp; done) | (simp; omega) | first | omega | (show (0 + 5 : Nat) < 5 + 1; decide) | (show (0 + 4 : Nat) < 5; decide)) | (apply Ab.Get.mk; first | rfl | rfl) | (apply Ab.Nm.mk; first | first | exact Eq.trans (congrArg (fun z => List.take _ (List.drop (z * 5) cs)) (Int.toNat_natCast i)) hE | exact Eq.trans (congrArg (fun z => List.take _ (List.drop (z * 5) cs)) (Int.toNat_natCast j)) hE3 | exact (show ((kc x).drop 0).take 5 = kc x from rfl) | exact nrm_) | (apply Xg.s; constructor) | (apply Ab.asm; assumption) | rfl | infer_instance | decide))
          rw [← hs3]
          exact X.roundN (m - (j + 1)) (by omega) ⟨j + 1, k, M + 2, v, ov, r2, by exact ev_, by exact ev_, by exact ev_, by exact ev_, a13, G3, hov, hk, hr3, F3, T3, by omega, by omega, rfl⟩
      case pos =>
        obtain ⟨y, hy⟩ : ∃ y : Kn, y = { x with md := x.md && z.md } := ⟨_, rfl⟩
        have hr3 : r2 ++ [y] = r ++ (L.take (j + 1)).filterMap (mt x) := by rw [hnext]; unfold VP.mt; rw [if_pos hmt, hy]; rfl
        obtain ⟨h1, h2, h3, h4, h5⟩ := hmt
        have hset : ∀ b, b = y.md → (kc x).set (0 + 4) (.bool b) = kc y := fun b hb => by rw [hb, hy]; rfl

        cases hmd : x.md
        case' false => have hmd2 : false = y.md := by rw [hy]; show false = (x.md && z.md); rw [hmd]; rfl
        case' true => have hmd2 : z.md = y.md := by rw [hy]; show z.md = (x.md && z.md); rw [hmd]; rfl
        all_goals
          (repeat' (first | (apply Ab.K.ev; exact ev_) | (apply Ab.K.aops; first | (apply Xg.s; constructor) | (apply Ab.S.guardU; (case hd => rfl); (case hb => (exact ev_; done))) | apply Ab.S.guardG) | (apply Ab.K.aop; first | (first | (apply Ab.O.allocA (l := kc ⟨0, 0, 0, 0, false⟩) M; (case hid => exact free_); (case hp => rfl)) | (apply Ab.O.allocA (l := kc ⟨0, 0, 0, 0, false⟩) (M + 1); (case hid => exact free_); (case hp => rfl)) | (apply Ab.O.storeAll; (case hz => rfl); (case hx => exact ev_); (case hy => exact ev_); (case hs => exact at_); (case hl => rfl); (case hc => rfl)) | (apply Ab.O.build1A (M + 2); (case hx => exact ev_); (case hl => rfl); (case hz => exact ⟨rfl, rfl⟩); (case hes => decide); (case hid => exact free_))) | (apply Og.s; constructor)) | (apply Ab.K.gk; first | (apply Xg.s; constructor) | (apply Ab.gY; case hw => assumption) | (apply Ab.gNT; case hw => assumption) | (apply Ab.gNF; case hw => assumption) | ((first | apply Ab.gD | apply Ab.gDN); all_goals (intro _ _; (first | contradiction | (exfalso; omega) | skip)))) | (apply Ab.K.aopsD; first | (apply Ab.D.q0t; (case hw => rfl); (case hot => rfl)) | (apply Ab.D.w1t; (case hw => rfl); (case hot => rfl)) | (apply Ab.D.q0; (case hw => rfl); intro _ _) | (apply Ab.D.w1n; (case hw => rfl); intro _ _) | (apply Ab.D.w2n; (case hw => rfl); intro _ _) | (apply Xg.s; constructor) | (apply Ab.D.guardU; (case hd => rfl); (case hb => (exact ev_; done))) | apply Ab.D.guardG) | exact ⟨rfl, rfl⟩ | (apply Ab.K.awp; first | (apply AWp.draw (id := 8) [[], [0], [], [0, 1, 2], [0, 1, 2, 3], [], [5], [], [5, 6, 7], [5, 6, 7, 8], [], [], [0, 1, 2, 3, 4, 10, 11], [0, 1, 2, 3, 4, 5, 6, 7, 8, 9, 10, 11, 12]] [(10, [M]), (11, [M + 1]), (12, [M]), (13, [M + 1])] (by kernel_rfl) (by kernel_rfl) (by simp [apartW, unordB, cC] <;> omega)) | (apply Xg.s; constructor)) | (apply Ab.K.at_; exact at_) | (apply Ab.K.acall; first | assumption | fail) | (apply Ab.Rg.mk; omega) | (apply Ab.Lt.mk; first | decide | (simp; done) | (simp; omega) | first | omega | (show (0 + 5 : Nat) < 5 + 1; decide) | (show (0 + 4 : Nat) < 5; decide)) | (apply Ab.Get.mk; first | rfl | rfl) | (apply Ab.Nm.mk; first | first | exact Eq.trans (congrArg (fun z => List.take _ (List.drop (z * 5) cs)) (Int.toNat_natCast i)) hE | exact Eq.trans (congrArg (fun z => List.take _ (List.drop (z * 5) cs)) (Int.toNat_natCast j)) hE3 | exact (show ((kc y).drop 0).take 5 = kc y from rfl) | exact hset _ hmd2 | exact nrm_) | (apply Xg.s; constructor) | (apply Ab.asm; assumption) | rfl | infer_instance | decide))
          rw [← hs3]
          have T4 : Top (M + 2) (s3.set M (.cells true 1 (kc y))) := T3.set (by omega)
          have F4 : Fr (s3.set M (.cells true 1 (kc y))) s [] := fun i hi c hc => by
            have := hT.lt (At.var hc)
            rw [AHeap.set_other _ _ (by omega)]; exact F3 i hi c hc
          have G4 : Gr ((s3.set M (.cells true 1 (kc y))).set (M + 2) (.cells true 5 (kc y))) 5 (N + 1) v ov k (kcs r2) := (G3.set (fun q e => by have := hlt q e; omega)).set (fun q e => by have := hlt q e; omega)
          have b1 : At ((s3.set M (.cells true 1 (kc y))).set (M + 2) (.cells true 5 (kc y))) N (.cells true 1 [.slice A n c, .slice (some ⟨q, 0, none⟩) m d]) := At.miss (by omega) (At.miss (by omega) a13)
          clear G G3
          (apply Ab.O.appendL (M + 3); (case hx => exact ev_); (case hL => exact Ab.Gr.lat (by assumption)); (case hy => exact ev_); (case hs => exact srcAll At.hit rfl); (case hk => rfl); (case hm => decide); (case hl => first | rfl | simp); (case hz => decide); (case hb => omega); (case hfree => exact free_))
          intro s4 g
          have T5 := G4.topN g T4.new
          have F5 := G4.frN g (Fr.new (hT.free (by omega)) F4) (hT.mono (by omega))
          have b5 := Gr.off g b1 (fun q e => by have := hge q e; omega) (by omega)
          rw [show kcs r2 ++ kc y = kcs (r2 ++ [y]) from by rw [kcs_append]; simp [kcs]] at g
          have G5 : Gr s4 5 (N + 1) _ _ (k + 1) _ := Gr.app g (by rw [kcs_length, List.length_append, hk]; rfl) (by omega)
          (repeat' (first | (apply Ab.K.ev; exact ev_) | (apply Ab.K.aops; first | (apply Xg.s; constructor) | (apply Ab.S.guardU; (case hd => rfl); (case hb => (exact ev_; done))) | apply Ab.S.guardG) | (apply Ab.K.aop; first | (apply Og.s; constructor)) | (apply Ab.K.gk; first | (apply Xg.s; constructor) | (apply Ab.gY; case hw => assumption) | (apply Ab.gNT; case hw => assumption) | (apply Ab.gNF; case hw => assumption) | ((first | apply Ab.gD | apply Ab.gDN); all_goals (intro _ _; (first | contradiction | (exfalso; omega) | skip)))) | (apply Ab.K.aopsD; first | (apply Ab.D.q0t; (case hw => rfl); (case hot => rfl)) | (apply Ab.D.w1t; (case hw => rfl); (case hot => rfl)) | (apply Ab.D.q0; (case hw => rfl); intro _ _) | (apply Ab.D.w1n; (case hw => rfl); intro _ _) | (apply Ab.D.w2n; (case hw => rfl); intro _ _) | (apply Xg.s; constructor) | (apply Ab.D.guardU; (case hd => rfl); (case hb => (exact ev_; done))) | apply Ab.D.guardG) | exact ⟨rfl, rfl⟩ | (apply Ab.K.awp; first | (apply AWp.draw (id := 8) [[], [0], [], [0, 1, 2], [0, 1, 2, 3], [], [5], [], [5, 6, 7], [5, 6, 7, 8], [], [], [0, 1, 2, 3, 4, 10, 11], [0, 1, 2, 3, 4, 5, 6, 7, 8, 9, 10, 11, 12]] [(10, [M]), (11, [M + 1]), (12, [M]), (13, [M + 1])] (by kernel_rfl) (by kernel_rfl) (by simp [apartW, unordB, cC] <;> omega)) | (apply Xg.s; constructor)) | (apply Ab.K.at_; exact at_) | (apply Ab.K.acall; first | assumption | fail) | (apply Ab.Rg.mk; omega) | (apply Ab.Lt.mk; first | decide | (simp; done) | (simp; omega) | first | omega | (show (0 + 5 : Nat) < 5 + 1; decide) | (show (0 + 4 : Nat) < 5; decide)) | (apply Ab.Get.mk; first | rfl | rfl) | (apply Ab.Nm.mk; first | first | exact Eq.trans (congrArg (fun z => List.take _ (List.drop (z * 5) cs)) (Int.toNat_natCast i)) hE | exact Eq.trans (congrArg (fun z => List.take _ (List.drop (z * 5) cs)) (Int.toNat_natCast j)) hE3 | exact (show ((kc y).drop 0).take 5 = kc y from rfl) | exact hset _ hmd2 | exact nrm_) | (apply Xg.s; constructor) | (apply Ab.asm; assumption) | rfl | infer_instance | decide))
          exact X.roundN (m - (j + 1)) (by omega) ⟨j + 1, k + 1, M + 4, _, _, r2 ++ [y], by exact ev_, by exact ev_, by exact ev_, by exact ev_, b5, G5, rfl, by rw [List.length_append, hk]; rfl, hr3, F5, T5, by omega, by omega, rfl⟩
    · obtain rfl : j = m := by omega
      rw [hml, List.take_length, ← hfin] at hr2
      (repeat' (first | (apply Ab.K.ev; exact ev_) | (apply Ab.K.aops; first | (apply Xg.s; constructor) | (apply Ab.S.guardU; (case hd => rfl); (case hb => (exact ev_; done))) | apply Ab.S.guardG) | (apply Ab.K.aop; first | (apply Og.s; constructor)) | (apply Ab.K.gk; first | (apply Xg.s; constructor) | (apply Ab.gY; case hw => assumption) | (apply Ab.gNT; case hw => assumption) | (apply Ab.gNF; case hw => assumption) | ((first | apply Ab.gD | apply Ab.gDN); all_goals (intro _ _; (first | contradiction | (exfalso; omega) | skip)))) | (apply Ab.K.awp; first | (apply Xg.s; constructor)) | (apply Ab.K.at_; exact at_) | (apply Ab.K.acall; first | assumption | fail) | (apply Ab.Rg.mk; omega) | (apply Ab.Lt.mk; first | decide | (simp; done) | (simp; omega) | first | omega | (show (0 + 5 : Nat) < 5 + 1; decide) | (show (0 + 4 : Nat) < 5; decide)) | (apply Ab.Get.mk; first | rfl | rfl) | (apply Ab.Nm.mk; first | first | exact Eq.trans (congrArg (fun z => List.take _ (List.drop (z * 5) cs)) (Int.toNat_natCast i)) hE | exact Eq.trans (congrArg (fun z => List.take _ (List.drop (z * 5) cs)) (Int.toNat_natCast j)) hE3 | exact (show ((kc y).drop 0).take 5 = kc y from rfl) | exact hset _ hmd2 | exact nrm_) | (apply Xg.s; constructor) | (apply Ab.asm; assumption) | rfl | infer_instance | decide))
      exact X.roundN (L.length - (i + 1)) (by omega) ⟨i + 1, k, M, v, ov, r2, by exact ev_, by exact ev_, by exact ev_, a1, G, hov, hk, hr2, F, T, hMM, by omega, by omega⟩
  · obtain rfl : i = m := by omega
    have hr2 : r = inn L := by rw [hr, hml, List.take_length]; rfl
    obtain ⟨q, rfl, aq, hq⟩ := Gr_some G hov
    rw [← hr2, ← hk]
    (repeat' (first | (apply Ab.K.ev; exact ev_) | (apply Ab.K.aops; first | (apply Xg.s; constructor) | (apply Ab.S.guardU; (case hd => rfl); (case hb => (exact ev_; done))) | apply Ab.S.guardG) | (apply Ab.K.aop; first | (apply Og.s; constructor)) | (apply Ab.K.gk; first | (apply Xg.s; constructor) | (apply Ab.gY; case hw => assumption) | (apply Ab.gNT; case hw => assumption) | (apply Ab.gNF; case hw => assumption) | ((first | apply Ab.gD | apply Ab.gDN); all_goals (intro _ _; (first | contradiction | (exfalso; omega) | skip)))) | (apply Ab.K.awp; first | (apply Xg.s; constructor)) | (apply Ab.K.at_; exact at_) | (apply Ab.K.acall; first | assumption | fail) | (apply Ab.Rg.mk; omega) | (apply Ab.Lt.mk; first | decide | (simp; done) | (simp; omega) | first | omega | (show (0 + 5 : Nat) < 5 + 1; decide) | (show (0 + 4 : Nat) < 5; decide)) | (apply Ab.Get.mk; first | rfl | rfl) | (apply Ab.Nm.mk; first | first | exact Eq.trans (congrArg (fun z => List.take _ (List.drop (z * 5) cs)) (Int.toNat_natCast i)) hE | exact Eq.trans (congrArg (fun z => List.take _ (List.drop (z * 5) cs)) (Int.toNat_natCast j)) hE3 | exact (show ((kc y).drop 0).take 5 = kc y from rfl) | exact hset _ hmd2 | exact nrm_) | (apply Xg.s; constructor) | (apply Ab.asm; assumption) | rfl | infer_instance | decide))
    apply RetQ.retR (renL (dn [(o, q, .cells true 5 (kcs r))]))
    (case he => exact evr_)
    (case hg => rfl)
    · simp [resV, mpR, mpB, mp1, mpA, renL_hit]
    · exact KeepsR.new1 ho (hT.none (by omega)) F aq (kcs_pl _) rfl
    · simp
end Go.Proofs.Ytdbnpghckgmaoaa

/- trees: the document's guard, its lists of nodes, the edges on a way. -/
namespace Go.Proofs.Ytdbnpghckgmaoaa
set_option linter.unusedVariables false
set_option linter.unusedSimpArgs false
set_option linter.unusedSectionVars false
open Go.RowKit Ab TP
attribute [local irreducible] AOps AOpsD AOp AWp put nargs AHeap.set At Free ACall thenQ blockQ roundQ RetQ Src bsn
noncomputable def okB (l : List E) (a b : Int) : Bool := decide (TP.Good l) && (foB l && (decide (TP.Node a) && decide (TP.Node b)))
theorem okB_iff {l : List E} {a b : Int} : okB l a b = true ↔ TP.Good l ∧ Forest l ∧ TP.Node a ∧ TP.Node b := by
  unfold okB
  simp only [Bool.and_eq_true, decide_eq_true_iff, foB_iff]
theorem Good.node {l : List E} (h : TP.Good l) : ∀ e ∈ l, TP.Node e.a ∧ TP.Node e.b := fun e he => ⟨(h.1 e he).1, (h.1 e he).2.1⟩




/-! ### a list that grows -/
theorem EA.own {s : AHeap} {q : Nat} {l : List E} (h : At s q (.cells true 3 (ecs l))) : EA s (.slice (some ⟨q, 0, none⟩) l.length l.length) (some q) l :=
  .blk h (Nat.le_refl _) (by rw [← ecs_length, List.take_length])
theorem NA.own {s : AHeap} {q : Nat} {l : List Int} (h : At s q (.cells true 1 (ints l))) : NA s (.slice (some ⟨q, 0, none⟩) l.length l.length) (some q) l :=
  .blk h (Nat.le_refl _) (by rw [← ints_length, List.take_length])
theorem linked14 {s : AHeap} {A : Option Addr} {n c : Nat} {on : Option Nat} {l : List E} {a : Int} {o : Nat} (h : EA s (.slice A n c) on l) (hl : ∀ e ∈ l, TP.Node e.a ∧ TP.Node e.b) (hn : n ≤ 512) (ho : s o = none) :
    ACall Try.prog 25 [.slice A n c, .int .i64 a] s (.slice (some ⟨o, 0, none⟩) (side l a).length (side l a).length) (s.set o (.cells true 1 (ints (side l a)))) := by
  have c27 := reach27 (a := a) h hl (by omega)
  refine ACall.make Try.func25 rfl (by kernel_rfl) (by decide) rfl (fun N hN => ?_)
  have hT : Top N s := hN


  (repeat' (first | (apply Ab.K.ev; exact ev_) | (apply Ab.K.aops; first | (apply Xg.s; constructor) | (apply Ab.S.guardU; (case hd => rfl); (case hb => (exact ev_; done))) | apply Ab.S.guardG) | (apply Ab.K.aop; first | (first | (apply Ab.O.allocA (l := bsn 65 fun _ => false) (N + 0); (case hid => exact frees_); (case hp => exact bsn_pl)) | (apply Ab.O.storeAll; (case hz => rfl); (case hx => exact ev_); (case hy => exact ev_); (case hs => exact at_); (case hl => exact bsn_length); (case hc => exact bsn_length)) | (apply Ab.O.build0 (N + 1) (te := ⟨.int .i64, 1, 8, .int .i64 0⟩); (case hz => exact ⟨rfl, rfl⟩); (case hid => exact frees_))) | (apply Og.s; constructor)) | (apply Ab.K.gk; first | (apply Xg.s; constructor) | (apply Ab.gY; case hw => assumption) | (apply Ab.gNT; case hw => assumption) | (apply Ab.gNF; case hw => assumption) | ((first | apply Ab.gD | apply Ab.gDN); all_goals (intro _ _; (first | contradiction | (exfalso; omega) | skip)))) | (apply Ab.K.awp; first | (apply Xg.s; constructor)) | (apply Ab.K.at_; exact at_) | (apply Ab.K.acall; first | assumption | exact c27) | (apply Ab.Rg.mk; omega) | (apply Ab.Lt.mk; first | decide | (simp; done) | (simp; omega) | fail) | (apply Ab.Get.mk; first | rfl | fail) | (apply Ab.Nm.mk; first | exact nrm_) | (apply Xg.s; constructor) | (apply Ab.asm; assumption) | rfl | infer_instance | decide))
  refine AWp.loop (fun kk tm s1 => ∃ (i q M : Nat), Ev tm (.tmp 5) (.pointer (some ⟨N + 0, 0, none⟩)) ∧ Ev tm (.tmp 6) (.slice (some ⟨q, 0, none⟩) (lkN (reachB l a) i).length (lkN (reachB l a) i).length) ∧ Ev tm (.tmp 7) (.int .i64 ((i + 1 : Nat) : Int)) ∧ At s1 (N + 0) (.cells true 1 (bsn 65 (reachB l a))) ∧ At s1 q (.cells true 1 (ints (lkN (reachB l a) i))) ∧ Fr s1 s [] ∧ N + 1 ≤ q ∧ Top M s1 ∧ i ≤ 64 ∧ kk = 64 - i) 64 ?_ ?_
  · exact ⟨0, N + 1, N + 2, by exact ev_, by exact ev_, by exact ev_, by exact at_, by exact at_, by exact fr_, Nat.le_refl _, ((hT.new (M := N)).set (by omega)).new, by omega, rfl⟩
  rintro kk tm s1 ⟨i, q, M, e5, e6, e7, a5, a6, F, hq, T, hi, hkk⟩
  have hqM := T.lt a6
  have hNM : N + 0 < M := T.lt a5
  have hlen := lkN_len (f := reachB l a) (k := i)
  by_cases hin : i < 64
  · have ga := bsn_get (n := 65) (f := reachB l a) (i := i + 1) (by omega)

    cases hf : reachB l a (i + 1)
    · rw [hf] at ga
      have hr : lkN (reachB l a) (i + 1) = lkN (reachB l a) i := by rw [lkN, if_neg (by rw [hf]; decide), List.append_nil]
      (repeat' (first | (apply Ab.K.ev; exact ev_) | (apply Ab.K.aops; first | (apply Xg.s; constructor) | (apply Ab.S.guardU; (case hd => rfl); (case hb => (exact ev_; done))) | apply Ab.S.guardG) | (apply Ab.K.aop; first | (apply Og.s; constructor)) | (apply Ab.K.gk; first | (apply Xg.s; constructor) | (apply Ab.gY; case hw => assumption) | (apply Ab.gNT; case hw => assumption) | (apply Ab.gNF; case hw => assumption) | ((first | apply Ab.gD | apply Ab.gDN); all_goals (intro _ _; (first | contradiction | (exfalso; omega) | skip)))) | (apply Ab.K.awp; first | (apply Xg.s; constructor)) | (apply Ab.K.at_; exact at_) | (apply Ab.K.acall; first | assumption | fail) | (apply Ab.Rg.mk; omega) | (apply Ab.Lt.mk; first | decide | (simp; done) | (simp; omega) | fail) | (apply Ab.Get.mk; first | rfl | first | exact ga) | (apply Ab.Nm.mk; first | exact nrm_) | (apply Xg.s; constructor) | (apply Ab.asm; assumption) | rfl | infer_instance | decide))
      exact X.roundN (64 - (i + 1)) (by omega) ⟨i + 1, q, M, by exact ev_, by rw [hr]; exact ev_, by exact ev_, a5, by rw [hr]; exact a6, F, hq, T, by omega, rfl⟩
    · rw [hf] at ga
      have hr : lkN (reachB l a) (i + 1) = lkN (reachB l a) i ++ [((i + 1 : Nat) : Int)] := by rw [lkN, if_pos hf]
      (repeat' (first | (apply Ab.K.ev; exact ev_) | (apply Ab.K.aops; first | (apply Xg.s; constructor) | (apply Ab.S.guardU; (case hd => rfl); (case hb => (exact ev_; done))) | apply Ab.S.guardG) | (apply Ab.K.aop; first | (apply Ab.O.build1 (M); (case hx => exact ev_); (case hv => exact ⟨rfl, rfl⟩); (case hz => exact ⟨rfl, rfl⟩); (case hid => exact free_)) | (apply Og.s; constructor)) | (apply Ab.K.gk; first | (apply Xg.s; constructor) | (apply Ab.gY; case hw => assumption) | (apply Ab.gNT; case hw => assumption) | (apply Ab.gNF; case hw => assumption) | ((first | apply Ab.gD | apply Ab.gDN); all_goals (intro _ _; (first | contradiction | (exfalso; omega) | skip)))) | (apply Ab.K.awp; first | (apply Xg.s; constructor)) | (apply Ab.K.at_; exact at_) | (apply Ab.K.acall; first | assumption | fail) | (apply Ab.Rg.mk; omega) | (apply Ab.Lt.mk; first | decide | (simp; done) | (simp; omega) | fail) | (apply Ab.Get.mk; first | rfl | first | exact ga) | (apply Ab.Nm.mk; first | exact nrm_) | (apply Xg.s; constructor) | (apply Ab.asm; assumption) | rfl | infer_instance | decide))
      (apply Ab.O.appendL (M + 1); (case hx => exact ev_); (case hL => first | exact LAt.nil | exact LAt.blk (by exact at_) (by first | rfl | simp [ints_length])); (case hy => exact ev_); (case hs => first | exact Src.sl (by exact at_) (by decide) (by decide) rfl | exact srcAll (by exact at_) (by first | rfl | simp [ints_length])); (case hk => rfl); (case hm => decide); (case hl => first | rfl | first | rfl | simp [ints_length]); (case hz => decide); (case hb => omega); (case hfree => exact free_))
      intro s2 g
      have out : ∀ j, j < M → q ≠ j → s2 j = s1 j := fun j hj hne => by rw [g.off _ (fun e => hne (Option.some.inj e)) (by omega), AHeap.set_other _ _ (by omega)]
      have T2 := g.topN T.new (fun q' e => by have := Option.some.inj e; omega)
      have F2 := g.fr (Fr.new (free_of (none_of T F _ (Nat.le_refl _))) F) (fun q' e => .inl (hT.none (by have := Option.some.inj e; omega)))
      have a5' : At s2 (N + 0) (.cells true 1 (bsn 65 (reachB l a))) := At.var (by rw [out _ hNM (by omega)]; exact a5.eq)
      have gh := g.hit
      (repeat' (first | (apply Ab.K.ev; exact ev_) | (apply Ab.K.aops; first | (apply Xg.s; constructor) | (apply Ab.S.guardU; (case hd => rfl); (case hb => (exact ev_; done))) | apply Ab.S.guardG) | (apply Ab.K.aop; first | (apply Og.s; constructor)) | (apply Ab.K.gk; first | (apply Xg.s; constructor) | (apply Ab.gY; case hw => assumption) | (apply Ab.gNT; case hw => assumption) | (apply Ab.gNF; case hw => assumption) | ((first | apply Ab.gD | apply Ab.gDN); all_goals (intro _ _; (first | contradiction | (exfalso; omega) | skip)))) | (apply Ab.K.awp; first | (apply Xg.s; constructor)) | (apply Ab.K.at_; exact at_) | (apply Ab.K.acall; first | assumption | fail) | (apply Ab.Rg.mk; omega) | (apply Ab.Lt.mk; first | decide | (simp; done) | (simp; omega) | fail) | (apply Ab.Get.mk; first | rfl | first | exact ga) | (apply Ab.Nm.mk; first | exact nrm_) | (apply Xg.s; constructor) | (apply Ab.asm; assumption) | rfl | infer_instance | decide))
      refine X.roundN (64 - (i + 1)) (by omega) ⟨i + 1, M + 1, M + 2, by exact ev_, by rw [hr, List.length_append]; exact ev_, by exact ev_, a5', by rw [hr, ints_append]; exact gh, F2, by omega, T2, by omega, rfl⟩
  · obtain rfl : i = 64 := by omega
    (repeat' (first | (apply Ab.K.ev; exact ev_) | (apply Ab.K.aops; first | (apply Xg.s; constructor) | (apply Ab.S.guardU; (case hd => rfl); (case hb => (exact ev_; done))) | apply Ab.S.guardG) | (apply Ab.K.aop; first | (apply Og.s; constructor)) | (apply Ab.K.gk; first | (apply Xg.s; constructor) | (apply Ab.gY; case hw => assumption) | (apply Ab.gNT; case hw => assumption) | (apply Ab.gNF; case hw => assumption) | ((first | apply Ab.gD | apply Ab.gDN); all_goals (intro _ _; (first | contradiction | (exfalso; omega) | skip)))) | (apply Ab.K.awp; first | (apply Xg.s; constructor)) | (apply Ab.K.at_; exact at_) | (apply Ab.K.acall; first | assumption | fail) | (apply Ab.Rg.mk; omega) | (apply Ab.Lt.mk; first | decide | (simp; done) | (simp; omega) | fail) | (apply Ab.Get.mk; first | rfl | first | exact ga) | (apply Ab.Nm.mk; first | exact nrm_) | (apply Xg.s; constructor) | (apply Ab.asm; assumption) | rfl | infer_instance | decide))
    apply RetQ.retR (renL (dn [(o, q, .cells true 1 (ints (side l a)))]))
    (case he => exact evr_)
    (case hg => rfl)
    · simp [resV, mpR, mpB, mp1, mpA, renL_hit, side]
    · exact KeepsR.new1 ho (hT.none (by omega)) F a6 (ints_pl _) rfl
    · simp



end Go.Proofs.Ytdbnpghckgmaoaa

/- trees: what a Join in memory does (written by gen_tj.py from c06). -/
namespace Go.Proofs.Ytdbnpghckgmaoaa
set_option linter.unusedVariables false
set_option linter.unusedSimpArgs false
set_option linter.unusedSectionVars false
open Go.RowKit Ab JP
structure JN where
  j : Nat
  u : Nat
  z : Nat
  l : Nat
  c1 : Nat
  c2 : Nat
  c3 : Nat
/-- A Join whose document's answer is 'w'. -/
def JH (J : JN) (s : AHeap) (w : List Int) : Prop := ∃ m U S L k, JAt s J.j J.u J.z J.l J.c1 J.c2 J.c3 U S L k ∧ JInv m U S L k w
def JOff (J : JN) (s2 s1 : AHeap) : Prop := ∀ i, i ≠ J.j → i ≠ J.u → i ≠ J.z → i ≠ J.l → s2 i = s1 i
theorem jset_off {s : AHeap} {j u z l c1 c2 c3 : Nat} {U S L : List Int} {k : Int} {i : Nat} (h1 : i ≠ j) (h2 : i ≠ u) (h3 : i ≠ z) (h4 : i ≠ l) : jset s j u z l c1 c2 c3 U S L k i = s i := by
  unfold jset; simp only [updH]
  rw [AHeap.set_other _ _ h1, AHeap.set_other _ _ h4, AHeap.set_other _ _ h3, AHeap.set_other _ _ h2]

def jp (J : JN) : Value := .pointer (some ⟨J.j, 0, none⟩)

theorem unite_step {J : JN} {s : AHeap} {w : List Int} (h : JH J s w) (hn : w.length ≤ 5000) (a b : Int) :
    ∃ s2, ACall Try.prog 49 [jp J, .int .i64 a, .int .i64 b] s (.bool (runite w a b).2) s2 ∧ JH J s2 (runite w a b).1 ∧ JOff J s2 s := by
  obtain ⟨m, U, S, L, k, h1, h2⟩ := h
  obtain ⟨m', U', S', L', k', c, i2, hl⟩ := unite_spec h1 h2 hn a b
  refine ⟨_, c, ⟨m', U', S', L', k', jset_at h1.ne ?_ ?_, i2⟩, fun i a b c d => jset_off a b c d⟩
  · rw [i2.ls, i2.lu]
  · rw [i2.ll, i2.lu]
theorem g_start {n : Nat} {x : Int} (h : In (start n) x) : g (start n) x = x := by
  obtain ⟨h0, h1⟩ := h
  rw [start_length] at h1
  have : g ((List.range n).map fun i : Nat => (i : Int)) x = ((x.toNat : Nat) : Int) := g_map_range n (fun i : Nat => (i : Int)) h0 h1
  show g ((List.range n).map Int.ofNat) x = x
  rw [show (Int.ofNat : Nat → Int) = fun i : Nat => (i : Int) from rfl, this]; omega
theorem cnt_start {n : Nat} {x : Int} (h : In (start n) x) : cnt (start n) x = 1 := by
  have key : ∀ k, k ≤ n → ((List.range k).filter fun i => decide (g (start n) (i : Nat) = x)).length = if x < k then 1 else 0 := by
    intro k
    induction k with
    | zero => intro _; simp; have := h.1; omega
    | succ k ih =>
      intro hk
      rw [List.range_succ, List.filter_append, List.length_append, ih (by omega)]
      have hg : g (start n) (k : Nat) = (k : Int) := g_start ⟨by omega, by rw [start_length]; omega⟩
      have h0 := h.1
      by_cases e : (k : Int) = x
      · have : ((List.filter (fun i : Nat => decide (g (start n) (i : Nat) = x)) [k]).length) = 1 := by rw [← e]; simp only [List.filter_cons, List.filter_nil, hg, decide_true, if_true]; rfl
        rw [this, if_neg (by omega), if_pos (by omega)]
      · have : ((List.filter (fun i : Nat => decide (g (start n) (i : Nat) = x)) [k]).length) = 0 := by simp only [List.filter_cons, List.filter_nil, hg, decide_eq_false e]; rfl
        rw [this]
        by_cases h1 : x < (k : Int)
        · rw [if_pos h1, if_pos (by omega)]
        · rw [if_neg h1, if_neg (by omega)]
  unfold cnt
  rw [start_length, key n (Nat.le_refl _), if_pos (by have := h.2; rw [start_length] at this; exact this)]
theorem fix_start (n : Nat) : fix (start (n + 1)) = n := by
  have key : ∀ k, k ≤ n → fixTo (start (n + 1)) (k + 1) = k := by
    intro k
    induction k with
    | zero => intro _; exact fixTo_one _
    | succ k ih =>
      intro hk
      have hg : g (start (n + 1)) ((k + 1 : Nat)) = ((k + 1 : Nat) : Int) := g_start ⟨by omega, by rw [start_length]; omega⟩
      rw [fixTo_succ, ih (by omega), if_pos ⟨by omega, hg⟩]
  have := key n (Nat.le_refl _)
  unfold fixTo at this
  unfold fix
  rw [start_length]; exact this
theorem jinv_start (n : Nat) : JInv (fun _ => 0) (start (n + 1)) (ones (n + 1)) (start (n + 1)) n (start (n + 1)) := by
  have hg : ∀ x, In (start (n + 1)) x → g (start (n + 1)) x = x := fun x h => g_start h
  have hr : ∀ x r, In (start (n + 1)) x → Root (start (n + 1)) x r → r = x := fun x r hx h => by
    exact (Root.uniq h (.here (hg x hx))).symm
  have h0 : In (start (n + 1)) 0 := ⟨by omega, by rw [start_length]; omega⟩
  refine ⟨fun i hi => ⟨by rw [hg i hi]; exact hi, .inl (hg i hi)⟩, rfl, by simp [ones, start_length], rfl, ⟨hg 0 h0, by rw [start_length]; omega, fun x hx h => by rw [hg x hx]; exact h, fun x hx => by rw [hg x hx]; exact ⟨hx.1, Int.le_refl _⟩, fun x hx => by rw [hg x hx]; exact hg x hx⟩, fun x r hx h => ?_, fun x y r q hx hy h1 h2 => ?_, by rw [fix_start]⟩
  · rw [hr x r hx h]
    refine ⟨rfl, ?_⟩
    rw [hg x hx, cnt_start hx]
    have : x.toNat < n + 1 := by have := hx.2; have := hx.1; rw [start_length] at *; omega
    simp [g, ones, List.getD, this]
  · rw [hr x r hx h1, hr y q hy h2, hg x hx, hg y hy]

def JN.free (J : JN) (s : AHeap) : Prop := s J.j = none ∧ s J.u = none ∧ s J.z = none ∧ s J.l = none
theorem new_step {s : AHeap} {n : Nat} (hn : n ≤ 4096) {J : JN} (hf : J.free s) (hne : J.j ≠ J.u ∧ J.j ≠ J.z ∧ J.j ≠ J.l ∧ J.u ≠ J.z ∧ J.u ≠ J.l ∧ J.z ≠ J.l) (hc : J.c1 = n + 1 ∧ J.c2 = n + 1 ∧ J.c3 = n + 1) :
    ∃ s2, ACall Try.prog 57 [.int .i64 n] s (.tuple #[jp J, .int .i64 0]) s2 ∧ JH J s2 (start (n + 1)) ∧ JOff J s2 s := by
  refine ⟨_, new_spec hn hf.1 hf.2.1 hf.2.2.1 hf.2.2.2 hne, ⟨_, _, _, _, _, ?_, jinv_start n⟩, fun i a b c d => jset_off a b c d⟩
  obtain ⟨e1, e2, e3⟩ := hc
  rw [e1, e2, e3]
  exact jset_at hne (by simp [ones, start_length]) rfl
theorem JOff.trans {J : JN} {a b c : AHeap} (h : JOff J a b) (h2 : JOff J b c) : JOff J a c := fun i x y z t => by rw [h i x y z t, h2 i x y z t]
theorem JH.at {J : JN} {s : AHeap} {w : List Int} (h : JH J s w) : (s J.j).isSome = true ∧ (s J.u).isSome = true ∧ (s J.z).isSome = true ∧ (s J.l).isSome = true := by
  obtain ⟨m, U, S, L, k, h1, h2⟩ := h
  exact ⟨by rw [h1.hj.eq]; rfl, by rw [h1.hu.eq]; rfl, by rw [h1.hz.eq]; rfl, by rw [h1.hl.eq]; rfl⟩
theorem JH.off {J : JN} {s2 s1 : AHeap} {w : List Int} (h : JH J s1 w) (h1 : s2 J.j = s1 J.j) (h2 : s2 J.u = s1 J.u) (h3 : s2 J.z = s1 J.z) (h4 : s2 J.l = s1 J.l) : JH J s2 w := by
  obtain ⟨m, U, S, L, k, a, b⟩ := h
  exact ⟨m, U, S, L, k, ⟨by unfold At; rw [h1]; exact a.hj, by unfold At; rw [h2]; exact a.hu, by unfold At; rw [h3]; exact a.hz, by unfold At; rw [h4]; exact a.hl, a.ls, a.ll, a.ne⟩, b⟩
theorem JOff.fr {J : JN} {s2 s1 s : AHeap} (h : JOff J s2 s1) (hf : J.free s) (h1 : Fr s1 s []) : Fr s2 s [] := fun i hi c hc => by
  rw [h i (fun e => by subst e; rw [hf.1] at hc; cases hc) (fun e => by subst e; rw [hf.2.1] at hc; cases hc) (fun e => by subst e; rw [hf.2.2.1] at hc; cases hc) (fun e => by subst e; rw [hf.2.2.2] at hc; cases hc)]
  exact h1 i hi c hc
theorem JOff.top {J : JN} {s2 s1 : AHeap} {M : Nat} (h : JOff J s2 s1) (h1 : Top M s1) (hl : J.j < M ∧ J.u < M ∧ J.z < M ∧ J.l < M) : Top M s2 := fun i hi => by
  rw [h i (by omega) (by omega) (by omega) (by omega)]; exact h1 i hi
end Go.Proofs.Ytdbnpghckgmaoaa

/- views: which may be, by the program. -/
namespace Go.Proofs.Ytdbnpghckgmaoaa
set_option linter.unusedVariables false
set_option linter.unusedSimpArgs false
set_option linter.unusedSectionVars false
open Go.RowKit Ab TP VP
attribute [local irreducible] AOps AOpsD AOp AWp put nargs AHeap.set At Free ACall ACallE thenQ blockQ roundQ RetQ RetE Src

/-- What a check answers. -/
def eno (b : Bool) : Int := if b = true then 0 else 1
theorem ok_notV {nodes : List Int} {k : Kn} (h : ¬ k.ok nodes) : ¬ TP.Node k.peer ∨ (TP.Node k.peer ∧ k.peer = k.node) ∨ (TP.Node k.peer ∧ ¬ k.peer = k.node ∧ k.w < 0) ∨ (TP.Node k.peer ∧ ¬ k.peer = k.node ∧ ¬ k.w < 0 ∧ 2147483647 < k.w) ∨ (TP.Node k.peer ∧ ¬ k.peer = k.node ∧ ¬ k.w < 0 ∧ ¬ 2147483647 < k.w ∧ k.ss < 1) ∨ (TP.Node k.peer ∧ ¬ k.peer = k.node ∧ ¬ k.w < 0 ∧ ¬ 2147483647 < k.w ∧ ¬ k.ss < 1 ∧ 2147483647 < k.ss) ∨ (TP.Node k.peer ∧ ¬ k.peer = k.node ∧ ¬ k.w < 0 ∧ ¬ 2147483647 < k.w ∧ ¬ k.ss < 1 ∧ ¬ 2147483647 < k.ss ∧ k.node ∉ nodes) := by
  unfold Kn.ok at h
  by_cases h2 : TP.Node k.peer
  · by_cases h3 : k.peer = k.node
    · exact .inr (.inl ⟨h2, h3⟩)
    · by_cases h4 : k.w < 0
      · exact .inr (.inr (.inl ⟨h2, h3, h4⟩))
      · by_cases h5 : 2147483647 < k.w
        · exact .inr (.inr (.inr (.inl ⟨h2, h3, h4, h5⟩)))
        · by_cases h6 : k.ss < 1
          · exact .inr (.inr (.inr (.inr (.inl ⟨h2, h3, h4, h5, h6⟩))))
          · by_cases h7 : 2147483647 < k.ss
            · exact .inr (.inr (.inr (.inr (.inr (.inl ⟨h2, h3, h4, h5, h6, h7⟩)))))
            · exact .inr (.inr (.inr (.inr (.inr (.inr ⟨h2, h3, h4, h5, h6, h7, fun h1 => h ⟨h1, h2, fun e => h3 e.symm, by omega, by omega, by omega, by omega⟩⟩)))))
  · exact .inl h2
set_option maxHeartbeats 4000000 in
theorem checkV {s : AHeap} {A B : Option Addr} {n c m d : Nat} {on ol : Option Nat} {nodes : List Int} {L : List Kn} (hN : NA s (.slice A n c) on nodes) (hL : KA s (.slice B m d) ol L) (hn : n ≤ 100000) (hm : m ≤ 100000) :
    ACall Try.prog 54 [.agg #[.slice A n c, .slice B m d]] s (.int .i64 (eno (mvB nodes L))) s := by
  have hnl : n = nodes.length := by obtain ⟨_, _, e⟩ := hN.isl; injection e
  have hml : m = L.length := by obtain ⟨_, _, e⟩ := hL.isl; injection e
  refine ACall.make Try.func54 rfl (by kernel_rfl) (by decide) rfl (fun N hN0 => ?_)
  have hT : Top N s := hN0
  (repeat' (first | (apply Ab.K.ev; exact ev_) | (apply Ab.K.aops; first | (apply Xg.s; constructor) | (apply Ab.S.guardU; (case hd => rfl); (case hb => (exact ev_; done))) | apply Ab.S.guardG) | (apply Ab.K.aop; first | (apply Ab.O.boxA (l := [.slice A n c, .slice B m d]) N; (case hx => exact ev_); (case hid => exact hT.free (Nat.le_refl _))) | (apply Og.s; constructor)) | (apply Ab.K.gk; first | (apply Xg.s; constructor) | (apply Ab.gY; case hw => assumption) | (apply Ab.gNT; case hw => assumption) | (apply Ab.gNF; case hw => assumption) | ((first | apply Ab.gD | apply Ab.gDN); all_goals (intro _ _; (first | contradiction | (exfalso; omega) | skip)))) | (apply Ab.K.awp; first | (apply Xg.s; constructor)) | (apply Ab.K.at_; exact at_) | (apply Ab.K.acall; first | assumption | fail) | (apply Ab.Rg.mk; omega) | (apply Ab.Lt.mk; first | decide | (simp; done) | (simp; omega) | fail) | (apply Ab.Get.mk; first | rfl | fail) | (apply Ab.Nm.mk; first | exact nrm_) | (apply Xg.s; constructor) | (apply Ab.asm; assumption) | rfl | infer_instance | decide))
  refine AWp.loop (fun kk tm s1 => ∃ i : Nat, Ev tm (.tmp 1) (.pointer (some ⟨N, 0, none⟩)) ∧ Ev tm (.tmp 8) (.slice A n c) ∧ Ev tm (.tmp 9) (.int .i64 n) ∧ Ev tm (.tmp 10) (.int .i64 i) ∧ At s1 N (.cells true 1 [.slice A n c, .slice B m d]) ∧ Fr s1 s [] ∧ Top (N + 1) s1 ∧ NP nodes i ∧ i ≤ n ∧ kk = n - i) n ?_ ?_
  · exact ⟨0, by exact ev_, by exact ev_, by exact ev_, by exact ev_, by exact at_, by exact fr_, by exact top_, NP.zero, by omega, rfl⟩
  rintro kk tm s1 ⟨i, e1, e8, e9, e3, a1, F, T, P, hi, hkk⟩
  by_cases hin : i < n
  · obtain ⟨x, hx⟩ : ∃ x, nodes[i]? = some x := ⟨_, List.getElem?_eq_getElem (by omega)⟩
    have hnx := P.next hx
    obtain ⟨q, rw1, cs, rfl, _, _, hq, g0⟩ := (hN.fr F).elt hx
    have c22 : ACall Try.prog 20 [.int .i64 x] s1 (.bool (decide (TP.Node x))) s1 := node29

    by_cases hxn : TP.Node x
    · rw [decide_eq_true hxn] at c22
      by_cases hi0 : i = 0
      · have P1 := hnx.2 ⟨hxn, .inl hi0⟩
        (repeat' (first | (apply Ab.K.ev; exact ev_) | (apply Ab.K.aops; first | (apply Xg.s; constructor) | (apply Ab.S.guardU; (case hd => rfl); (case hb => (exact ev_; done))) | apply Ab.S.guardG) | (apply Ab.K.aop; first | (apply Og.s; constructor)) | (apply Ab.K.gk; first | (apply Xg.s; constructor) | (apply Ab.gY; case hw => assumption) | (apply Ab.gNT; case hw => assumption) | (apply Ab.gNF; case hw => assumption) | ((first | apply Ab.gD | apply Ab.gDN); all_goals (intro _ _; (first | contradiction | (exfalso; omega) | skip)))) | (apply Ab.K.awp; first | (apply Xg.s; constructor)) | (apply Ab.K.at_; exact at_) | (apply Ab.K.acall; first | assumption | exact c22) | (apply Ab.Rg.mk; omega) | (apply Ab.Lt.mk; first | decide | (simp; done) | (simp; omega) | fail) | (apply Ab.Get.mk; first | rfl | first | rfl | (rw [Int.toNat_natCast]; exact g0) | (rw [show ((i : Int) - 1).toNat = i - 1 from by omega]; exact g1)) | (apply Ab.Nm.mk; first | exact nrm_) | (apply Xg.s; constructor) | (apply Ab.asm; assumption) | rfl | infer_instance | decide))
        exact X.roundN (n - (i + 1)) (by omega) ⟨i + 1, by exact ev_, by exact ev_, by exact ev_, by exact ev_, a1, F, T, P1, by omega, rfl⟩
      · obtain ⟨y, hy⟩ : ∃ y, nodes[i - 1]? = some y := ⟨_, List.getElem?_eq_getElem (by omega)⟩
        obtain ⟨q2, rw2, cs2, hqq, _, _, hq2, g1⟩ := (hN.fr F).elt hy
        obtain rfl : q = q2 := by have := Option.some.inj hqq; injection this
        have e2 := hq.eq.symm.trans hq2.eq
        injection e2 with e2
        injection e2 with _ _ e2
        subst e2
        by_cases hyx : y < x
        · have P1 := hnx.2 ⟨hxn, .inr ⟨y, hy, hyx⟩⟩
          (repeat' (first | (apply Ab.K.ev; exact ev_) | (apply Ab.K.aops; first | (apply Xg.s; constructor) | (apply Ab.S.guardU; (case hd => rfl); (case hb => (exact ev_; done))) | apply Ab.S.guardG) | (apply Ab.K.aop; first | (apply Og.s; constructor)) | (apply Ab.K.gk; first | (apply Xg.s; constructor) | (apply Ab.gY; case hw => assumption) | (apply Ab.gNT; case hw => assumption) | (apply Ab.gNF; case hw => assumption) | ((first | apply Ab.gD | apply Ab.gDN); all_goals (intro _ _; (first | contradiction | (exfalso; omega) | skip)))) | (apply Ab.K.awp; first | (apply Xg.s; constructor)) | (apply Ab.K.at_; exact at_) | (apply Ab.K.acall; first | assumption | exact c22) | (apply Ab.Rg.mk; omega) | (apply Ab.Lt.mk; first | decide | (simp; done) | (simp; omega) | fail) | (apply Ab.Get.mk; first | rfl | first | rfl | (rw [Int.toNat_natCast]; exact g0) | (rw [show ((i : Int) - 1).toNat = i - 1 from by omega]; exact g1)) | (apply Ab.Nm.mk; first | exact nrm_) | (apply Xg.s; constructor) | (apply Ab.asm; assumption) | rfl | infer_instance | decide))
          exact X.roundN (n - (i + 1)) (by omega) ⟨i + 1, by exact ev_, by exact ev_, by exact ev_, by exact ev_, a1, F, T, P1, by omega, rfl⟩
        · have hno : mvB nodes L = false := mvB_no fun h => by
            rcases (hnx.1 (NP.of h.1 _)).2 with h1 | ⟨y', h1, h2⟩
            · exact hi0 h1
            · rw [hy] at h1; obtain rfl := Option.some.inj h1; exact hyx h2
          rw [hno]
          (repeat' (first | (apply Ab.K.ev; exact ev_) | (apply Ab.K.aops; first | (apply Xg.s; constructor) | (apply Ab.S.guardU; (case hd => rfl); (case hb => (exact ev_; done))) | apply Ab.S.guardG) | (apply Ab.K.aop; first | (apply Og.s; constructor)) | (apply Ab.K.gk; first | (apply Xg.s; constructor) | (apply Ab.gY; case hw => assumption) | (apply Ab.gNT; case hw => assumption) | (apply Ab.gNF; case hw => assumption) | ((first | apply Ab.gD | apply Ab.gDN); all_goals (intro _ _; (first | contradiction | (exfalso; omega) | skip)))) | (apply Ab.K.awp; first | (apply Xg.s; constructor)) | (apply Ab.K.at_; exact at_) | (apply Ab.K.acall; first | assumption | exact c22) | (apply Ab.Rg.mk; omega) | (apply Ab.Lt.mk; first | decide | (simp; done) | (simp; omega) | fail) | (apply Ab.Get.mk; first | rfl | first | rfl | (rw [Int.toNat_natCast]; exact g0) | (rw [show ((i : Int) - 1).toNat = i - 1 from by omega]; exact g1)) | (apply Ab.Nm.mk; first | exact nrm_) | (apply Xg.s; constructor) | (apply Ab.asm; assumption) | rfl | infer_instance | decide))
          all_goals ((first | apply RetQ.ret | apply RetQ.normal); (case he => exact evr_); (case hg => rfl))
          all_goals first | rfl | exact Keeps.fr F (plR.nm rfl)
    · have hno : mvB nodes L = false := mvB_no fun h => hxn (hnx.1 (NP.of h.1 _)).1
      rw [hno]
      rw [decide_eq_false hxn] at c22
      (repeat' (first | (apply Ab.K.ev; exact ev_) | (apply Ab.K.aops; first | (apply Xg.s; constructor) | (apply Ab.S.guardU; (case hd => rfl); (case hb => (exact ev_; done))) | apply Ab.S.guardG) | (apply Ab.K.aop; first | (apply Og.s; constructor)) | (apply Ab.K.gk; first | (apply Xg.s; constructor) | (apply Ab.gY; case hw => assumption) | (apply Ab.gNT; case hw => assumption) | (apply Ab.gNF; case hw => assumption) | ((first | apply Ab.gD | apply Ab.gDN); all_goals (intro _ _; (first | contradiction | (exfalso; omega) | skip)))) | (apply Ab.K.awp; first | (apply Xg.s; constructor)) | (apply Ab.K.at_; exact at_) | (apply Ab.K.acall; first | assumption | exact c22) | (apply Ab.Rg.mk; omega) | (apply Ab.Lt.mk; first | decide | (simp; done) | (simp; omega) | fail) | (apply Ab.Get.mk; first | rfl | first | rfl | (rw [Int.toNat_natCast]; exact g0) | (rw [show ((i : Int) - 1).toNat = i - 1 from by omega]; exact g1)) | (apply Ab.Nm.mk; first | exact nrm_) | (apply Xg.s; constructor) | (apply Ab.asm; assumption) | rfl | infer_instance | decide))
      all_goals ((first | apply RetQ.ret | apply RetQ.normal); (case he => exact evr_); (case hg => rfl))
      all_goals first | rfl | exact Keeps.fr F (plR.nm rfl)


  have hNO : NOk nodes := P.all (by omega)
  (repeat' (first | (apply Ab.K.ev; exact ev_) | (apply Ab.K.aops; first | (apply Xg.s; constructor) | (apply Ab.S.guardU; (case hd => rfl); (case hb => (exact ev_; done))) | apply Ab.S.guardG) | (apply Ab.K.aop; first | (apply Og.s; constructor)) | (apply Ab.K.gk; first | (apply Xg.s; constructor) | (apply Ab.gY; case hw => assumption) | (apply Ab.gNT; case hw => assumption) | (apply Ab.gNF; case hw => assumption) | ((first | apply Ab.gD | apply Ab.gDN); all_goals (intro _ _; (first | contradiction | (exfalso; omega) | skip)))) | (apply Ab.K.awp; first | (apply Xg.s; constructor)) | (apply Ab.K.at_; exact at_) | (apply Ab.K.acall; first | assumption | fail) | (apply Ab.Rg.mk; omega) | (apply Ab.Lt.mk; first | decide | (simp; done) | (simp; omega) | fail) | (apply Ab.Get.mk; first | rfl | first | rfl) | (apply Ab.Nm.mk; first | exact nrm_) | (apply Xg.s; constructor) | (apply Ab.asm; assumption) | rfl | infer_instance | decide))
  clear P
  refine AWp.loop (fun kk tm s1 => ∃ i M : Nat, Ev tm (.tmp 1) (.pointer (some ⟨N, 0, none⟩)) ∧ Ev tm (.tmp 34) (.slice B m d) ∧ Ev tm (.tmp 35) (.int .i64 m) ∧ Ev tm (.tmp 36) (.int .i64 i) ∧ At s1 N (.cells true 1 [.slice A n c, .slice B m d]) ∧ Fr s1 s [] ∧ Top M s1 ∧ N < M ∧ LP nodes L i ∧ i ≤ m ∧ kk = m - i) m ?_ ?_
  · exact ⟨0, N + 1, by exact ev_, by exact ev_, by exact ev_, by exact ev_, a1, F, T, by omega, LP.zero, by omega, rfl⟩
  clear a1 F T e1 e3 e8 e9
  rintro kk tm s1 ⟨i', M, e1, e34, e35, e4, a1, F, T, hNM, P, hi', hkk⟩
  by_cases hin' : i' < m
  · obtain ⟨x, hx⟩ : ∃ x, L[i']? = some x := ⟨_, List.getElem?_eq_getElem (by omega)⟩
    have hnx := P.next hx
    obtain ⟨q, rw1, cs, rfl, _, _, hq, hcs, hE, _⟩ := (hL.fr F).elt hx
    have hqM := T.lt hq
    obtain ⟨s2, hs2⟩ : ∃ s2, s2 = (s1.set M (.cells true 1 (kc ⟨0, 0, 0, 0, false⟩))).set M (.cells true 1 (kc x)) := ⟨_, rfl⟩
    have F2 : Fr s2 s [] := by rw [hs2, AHeap.set_set]; exact Fr.new (hT.free (by omega)) F
    have T2 : Top (M + 1) s2 := by rw [hs2, AHeap.set_set]; exact T.new
    have aM : At s2 M (.cells true 1 (kc x)) := by rw [hs2]; exact At.hit
    have a12 : At s2 N (.cells true 1 [.slice A n c, .slice (some ⟨q, 0, none⟩) m d]) := by rw [hs2]; exact at_
    have hq2 : At s2 q (.cells rw1 5 cs) := by rw [hs2]; exact at_
    have c41 := containsI (x := x.node) (hN.fr F2) (by omega)
    have c22 : ACall Try.prog 20 [.int .i64 x.peer] s2 (.bool (decide (TP.Node x.peer))) s2 := node29
    have hm5 := hE
    have c42 : ∀ p : Kn, ACall Try.prog 56 [.agg (kc p).toArray, .agg (kc x).toArray] s2 (.int .i64 (ord2 p x)) s2 := fun p => orderV



    rw [hs2] at c41 c22 c42
    by_cases hok : x.ok nodes
    · obtain ⟨k1, k2, k3, k4, k5, k6, k7⟩ := hok
      rw [decide_eq_true k1] at c41
      rw [decide_eq_true k2] at c22
      by_cases hi0 : i' = 0
      · have P1 := hnx.2 ⟨⟨k1, k2, k3, k4, k5, k6, k7⟩, .inl hi0⟩
        (repeat' (first | (apply Ab.K.ev; exact ev_) | (apply Ab.K.aops; first | (apply Xg.s; constructor) | (apply Ab.S.guardU; (case hd => rfl); (case hb => (exact ev_; done))) | apply Ab.S.guardG) | (apply Ab.K.aop; first | (first | (apply Ab.O.allocA (l := kc ⟨0, 0, 0, 0, false⟩) M; (case hid => exact T.free (Nat.le_refl _)); (case hp => rfl)) | (apply Ab.O.storeAll; (case hz => rfl); (case hx => exact ev_); (case hy => exact ev_); (case hs => exact at_); (case hl => rfl); (case hc => rfl))) | (apply Og.s; constructor)) | (apply Ab.K.gk; first | (apply Xg.s; constructor) | (apply Ab.gY; case hw => assumption) | (apply Ab.gNT; case hw => assumption) | (apply Ab.gNF; case hw => assumption) | ((first | apply Ab.gD | apply Ab.gDN); all_goals (intro _ _; (first | contradiction | (exfalso; omega) | skip)))) | (apply Ab.K.aopsD; first | (apply Ab.D.q0t; (case hw => rfl); (case hot => rfl)) | (apply Ab.D.w1t; (case hw => rfl); (case hot => rfl)) | (apply Ab.D.q0; (case hw => rfl); intro _ _) | (apply Ab.D.w1n; (case hw => rfl); intro _ _) | (apply Ab.D.w2n; (case hw => rfl); intro _ _) | (apply Xg.s; constructor) | (apply Ab.D.guardU; (case hd => rfl); (case hb => (exact ev_; done))) | apply Ab.D.guardG) | exact ⟨rfl, rfl⟩ | (apply Ab.K.awp; first | (apply AWp.draw (id := 10) [[], [0], [0, 1], [0, 1, 2], [0, 1, 2, 3], [0, 1, 2, 3, 4], [0, 1, 2, 3, 4, 5], [0, 1, 2, 3, 4], [0, 1, 2, 3, 4, 7], [0, 1, 2, 3, 4, 5, 6, 7, 8], [0, 1, 2, 3, 4, 5, 6, 7, 8, 9], [0, 1, 2, 3, 4, 5, 6, 7, 8, 9, 10], [0, 1, 2, 3, 4, 5, 6, 7, 8, 9, 10, 11], [0, 1, 2, 3, 4, 5, 6, 7, 8, 9, 10, 11, 12], [0, 1, 2, 3, 4, 5, 6, 7, 8, 9, 10, 11, 12, 13], [0, 1, 2, 3, 4, 5, 6, 7, 8, 9, 10, 11, 12, 13, 14], [0, 1, 2, 3, 4, 5, 6, 7, 8, 9, 10, 11, 12, 13, 14, 15], [0, 1, 2, 3, 4, 5, 6, 7, 8, 9, 10, 11, 12, 13, 14, 15, 16], [0, 1, 2, 3, 4, 5, 6, 7, 8, 9, 10, 11, 12, 13, 14, 15, 16, 17], [0, 1, 2, 3, 4, 5, 6, 7, 8, 9, 10, 11, 12, 13, 14, 15, 16, 17, 18], [0, 1, 2, 3, 4, 5, 6, 7, 8, 9, 10, 11, 12, 13, 14, 15, 16, 17, 18, 19], [0, 1, 2, 3, 4, 5, 6, 7, 8, 9, 10, 11, 12, 13, 14, 15, 16, 17, 18, 19, 20], [0, 1, 2, 3, 4, 5, 6, 7, 8, 9, 10, 11, 12, 13, 14, 15, 16, 17, 18, 19, 20, 21], [0, 1, 2, 3, 4, 5, 6, 7, 8, 9, 10, 11, 12, 13, 14, 15, 16, 17, 18, 19, 20, 21, 22], [0, 1, 2, 3, 4, 5, 6, 7, 8, 9, 10, 11, 12, 13, 14, 15, 16, 17, 18, 19, 20, 21, 22, 23], [0, 1, 2, 3, 4, 5, 6, 7, 8, 9, 10, 11, 12, 13, 14, 15, 16, 17, 18, 19, 20, 21, 22, 23, 24], [0, 1, 2, 3, 4, 5, 6, 7, 8, 9, 10, 11, 12, 13, 14, 15, 16, 17, 18, 19, 20, 21, 22, 23, 24, 25], [0, 1, 2, 3, 4, 5, 6, 7, 8, 9, 10, 11, 12, 13, 14, 15, 16, 17, 18, 19, 20, 21, 22, 23, 24, 25, 26], [0, 1, 2, 3, 4, 5, 6, 7, 8, 9, 10, 11, 12, 13, 14, 15, 16, 17, 18, 19, 20, 21, 22, 23, 24, 25, 26, 27], [0, 1, 2, 3, 4, 5, 6, 7, 8, 9, 10, 11, 12, 13, 14, 15, 16, 17, 18, 19, 20, 21, 22, 23, 24, 25, 26, 27, 28], [0, 1, 2, 3, 4, 5, 6, 7, 8, 9, 10, 11, 12, 13, 14, 15, 16, 17, 18, 19, 20, 21, 22, 23, 24, 25, 26, 27, 28, 29], [0, 1, 2, 3, 4, 5, 6, 7, 8, 9, 10, 11, 12, 13, 14, 15, 16, 17, 18, 19, 20, 21, 22, 23, 24, 25, 26, 27, 28, 29, 30], [0, 1, 2, 3, 4, 5, 6, 7, 8, 9, 10, 11, 12, 13, 14, 15, 16, 17, 18, 19, 20, 21, 22, 23, 24, 25, 26, 27, 28, 29, 30, 31], [0, 1, 2, 3, 4, 5, 6, 7, 8, 9, 10, 11, 12, 13, 14, 15, 16, 17, 18, 19, 20, 21, 22, 23, 24, 25, 26, 27, 28, 29, 30, 31, 32], [0, 1, 2, 3, 4, 5, 6, 7, 8, 9, 10, 11, 12, 13, 14, 15, 16, 17, 18, 19, 20, 21, 22, 23, 24, 25, 26, 27, 28, 29, 30, 31], [0, 1, 2, 3, 4, 5, 6, 7, 8, 9, 10, 11, 12, 13, 14, 15, 16, 17, 18, 19, 20, 21, 22, 23, 24, 25, 26, 27, 28, 29, 30, 31, 34], [0, 1, 2, 3, 4, 5, 6, 7, 8, 9, 10, 11, 12, 13, 14, 15, 16, 17, 18, 19, 20, 21, 22, 23, 24, 25, 26, 27, 28, 29, 30, 31, 32, 33, 34, 35], [0, 1, 2, 3, 4, 5, 6, 7, 8, 9, 10, 11, 12, 13, 14, 15, 16, 17, 18, 19, 20, 21, 22, 23, 24, 25, 26, 27, 28, 29, 30, 31, 32, 33, 34, 35, 36], [0, 1, 2, 3, 4, 5, 6, 7, 8, 9, 10, 11, 12, 13, 14, 15, 16, 17, 18, 19, 20, 21, 22, 23, 24, 25, 26, 27, 28, 29, 30, 31, 32, 33, 34, 35, 36, 37], [0, 1, 2, 3, 4, 5, 6, 7, 8, 9, 10, 11, 12, 13, 14, 15, 16, 17, 18, 19, 20, 21, 22, 23, 24, 25, 26, 27, 28, 29, 30, 31, 32, 33, 34, 35, 36, 37, 38], [0, 1, 2, 3, 4, 5, 6, 7, 8, 9, 10, 11, 12, 13, 14, 15, 16, 17, 18, 19, 20, 21, 22, 23, 24, 25, 26, 27, 28, 29, 30, 31, 32, 33, 34, 35, 36, 37, 38, 39], [0, 1, 2, 3, 4, 5, 6, 7, 8, 9, 10, 11, 12, 13, 14, 15, 16, 17, 18, 19, 20, 21, 22, 23, 24, 25, 26, 27, 28, 29, 30, 31, 32, 33, 34, 35, 36, 37, 38, 39, 40], [0, 1, 2, 3, 4, 5, 6, 7, 8, 9, 10, 11, 12, 13, 14, 15, 16, 17, 18, 19, 20, 21, 22, 23, 24, 25, 26, 27, 28, 29, 30, 31, 32, 33, 34, 35, 36, 37, 38, 39, 40, 41], [0, 1, 2, 3, 4, 5, 6, 7, 8, 9, 10, 11, 12, 13, 14, 15, 16, 17, 18, 19, 20, 21, 22, 23, 24, 25, 26, 27, 28, 29, 30, 31, 32, 33, 34, 35, 36, 37, 38, 39, 40, 41, 42], [0, 1, 2, 3, 4, 5, 6, 7, 8, 9, 10, 11, 12, 13, 14, 15, 16, 17, 18, 19, 20, 21, 22, 23, 24, 25, 26, 27, 28, 29, 30, 31, 32, 33, 34, 35, 36, 37, 38, 39, 40, 41, 42, 43], [0, 1, 2, 3, 4, 5, 6, 7, 8, 9, 10, 11, 12, 13, 14, 15, 16, 17, 18, 19, 20, 21, 22, 23, 24, 25, 26, 27, 28, 29, 30, 31, 32, 33, 34, 35, 36, 37, 38, 39, 40, 41, 42], [0, 1, 2, 3, 4, 5, 6, 7, 8, 9, 10, 11, 12, 13, 14, 15, 16, 17, 18, 19, 20, 21, 22, 23, 24, 25, 26, 27, 28, 29, 30, 31, 32, 33, 34, 35, 36, 37, 38, 39, 40, 41, 42, 45], [0, 1, 2, 3, 4, 5, 6, 7, 8, 9, 10, 11, 12, 13, 14, 15, 16, 17, 18, 19, 20, 21, 22, 23, 24, 25, 26, 27, 28, 29, 30, 31, 32, 33, 34, 35, 36, 37, 38, 39, 40, 41, 42, 43, 44, 45, 46], [0, 1, 2, 3, 4, 5, 6, 7, 8, 9, 10, 11, 12, 13, 14, 15, 16, 17, 18, 19, 20, 21, 22, 23, 24, 25, 26, 27, 28, 29, 30, 31, 32, 33, 34, 35, 36, 37, 38, 39, 40, 41, 42, 43, 44, 45, 46, 47], [0, 1, 2, 3, 4, 5, 6, 7, 8, 9, 10, 11, 12, 13, 14, 15, 16, 17, 18, 19, 20, 21, 22, 23, 24, 25, 26, 27, 28, 29, 30, 31, 32, 33, 34, 35, 36, 37, 38, 39, 40, 41, 42], [0, 1, 2, 3, 4, 5, 6, 7, 8, 9, 10, 11, 12, 13, 14, 15, 16, 17, 18, 19, 20, 21, 22, 23, 24, 25, 26, 27, 28, 29, 30, 31, 32, 33, 34, 35, 36, 37, 38, 39, 40, 41, 42, 43, 44, 45, 46, 47, 48, 49], [0, 1, 2, 3, 4, 5, 6, 7, 8, 9, 10, 11, 12, 13, 14, 15, 16, 17, 18, 19, 20, 21, 22, 23, 24, 25, 26, 27, 28, 29, 30, 31, 32, 33, 34, 35, 36, 37, 38, 39, 40, 41, 42, 43, 44, 45, 46, 47, 48, 49, 50], [0, 1, 2, 3, 4, 5, 6, 7, 8, 9, 10, 11, 12, 13, 14, 15, 16, 17, 18, 19, 20, 21, 22, 23, 24, 25, 26, 27, 28, 29, 30, 31, 32, 33, 34, 35, 36, 37, 38, 39, 40, 41, 42, 43, 44, 45, 46, 47, 48, 49, 50, 51], [0, 1, 2, 3, 4, 5, 6, 7, 8, 9, 10, 11, 12, 13, 14, 15, 16, 17, 18, 19, 20, 21, 22, 23, 24, 25, 26, 27, 28, 29, 30, 31, 32, 33, 34, 35, 36, 37, 38, 39, 40, 41, 42, 43, 44, 45, 46, 47, 48, 49, 50, 51, 52]] [] (by kernel_rfl) (by kernel_rfl) (by simp [apartW, unordB, cC] <;> omega)) | (apply Xg.s; constructor)) | (apply Ab.K.at_; exact at_) | (apply Ab.K.acall; first | assumption | first | exact c41 | exact c22 | exact c42 _) | (apply Ab.Rg.mk; omega) | (apply Ab.Lt.mk; first | decide | (simp; done) | (simp; omega) | first | omega | (show (0 + 5 : Nat) < 5 + 1; decide)) | (apply Ab.Get.mk; first | rfl | first | rfl) | (apply Ab.Nm.mk; first | first | exact Eq.trans (congrArg (fun z => List.take _ (List.drop (z * 5) cs)) (Int.toNat_natCast i')) hE | exact (show ((kc x).drop 0).take 5 = kc x from rfl) | exact Eq.trans (congrArg (fun z => List.take _ (List.drop (z * 5) cs)) (show ((i' : Int) - 1).toNat = i' - 1 from by omega)) hEy | exact nrm_) | (apply Xg.s; constructor) | (apply Ab.asm; assumption) | rfl | infer_instance | decide))
        rw [← hs2]
        exact X.roundN (m - (i' + 1)) (by omega) ⟨i' + 1, M + 1, by exact ev_, by exact ev_, by exact ev_, by exact ev_, a12, F2, T2, by omega, P1, by omega, rfl⟩
      · obtain ⟨y, hy⟩ : ∃ y, L[i' - 1]? = some y := ⟨_, List.getElem?_eq_getElem (by omega)⟩
        obtain ⟨q2, rw2, cs2, hqq, _, _, hq3, hcs2, hEy, _⟩ := (hL.fr F).elt hy
        obtain rfl : q = q2 := by have := Option.some.inj hqq; injection this
        have e2 := hq.eq.symm.trans hq3.eq
        injection e2 with e2
        injection e2 with _ _ e2
        subst e2
        have c42y := c42 y
        by_cases hyx : VP.ahead y x
        · have P1 := hnx.2 ⟨⟨k1, k2, k3, k4, k5, k6, k7⟩, .inr ⟨y, hy, hyx⟩⟩
          have hge : ¬ ord2 y x ≥ 0 := by have := ord2_neg.2 hyx; omega
          (repeat' (first | (apply Ab.K.ev; exact ev_) | (apply Ab.K.aops; first | (apply Xg.s; constructor) | (apply Ab.S.guardU; (case hd => rfl); (case hb => (exact ev_; done))) | apply Ab.S.guardG) | (apply Ab.K.aop; first | (first | (apply Ab.O.allocA (l := kc ⟨0, 0, 0, 0, false⟩) M; (case hid => exact T.free (Nat.le_refl _)); (case hp => rfl)) | (apply Ab.O.storeAll; (case hz => rfl); (case hx => exact ev_); (case hy => exact ev_); (case hs => exact at_); (case hl => rfl); (case hc => rfl))) | (apply Og.s; constructor)) | (apply Ab.K.gk; first | (apply Xg.s; constructor) | (apply Ab.gY; case hw => assumption) | (apply Ab.gNT; case hw => assumption) | (apply Ab.gNF; case hw => assumption) | ((first | apply Ab.gD | apply Ab.gDN); all_goals (intro _ _; (first | contradiction | (exfalso; omega) | skip)))) | (apply Ab.K.aopsD; first | (apply Ab.D.q0t; (case hw => rfl); (case hot => rfl)) | (apply Ab.D.w1t; (case hw => rfl); (case hot => rfl)) | (apply Ab.D.q0; (case hw => rfl); intro _ _) | (apply Ab.D.w1n; (case hw => rfl); intro _ _) | (apply Ab.D.w2n; (case hw => rfl); intro _ _) | (apply Xg.s; constructor) | (apply Ab.D.guardU; (case hd => rfl); (case hb => (exact ev_; done))) | apply Ab.D.guardG) | exact ⟨rfl, rfl⟩ | (apply Ab.K.awp; first | (apply AWp.draw (id := 10) [[], [0], [0, 1], [0, 1, 2], [0, 1, 2, 3], [0, 1, 2, 3, 4], [0, 1, 2, 3, 4, 5], [0, 1, 2, 3, 4], [0, 1, 2, 3, 4, 7], [0, 1, 2, 3, 4, 5, 6, 7, 8], [0, 1, 2, 3, 4, 5, 6, 7, 8, 9], [0, 1, 2, 3, 4, 5, 6, 7, 8, 9, 10], [0, 1, 2, 3, 4, 5, 6, 7, 8, 9, 10, 11], [0, 1, 2, 3, 4, 5, 6, 7, 8, 9, 10, 11, 12], [0, 1, 2, 3, 4, 5, 6, 7, 8, 9, 10, 11, 12, 13], [0, 1, 2, 3, 4, 5, 6, 7, 8, 9, 10, 11, 12, 13, 14], [0, 1, 2, 3, 4, 5, 6, 7, 8, 9, 10, 11, 12, 13, 14, 15], [0, 1, 2, 3, 4, 5, 6, 7, 8, 9, 10, 11, 12, 13, 14, 15, 16], [0, 1, 2, 3, 4, 5, 6, 7, 8, 9, 10, 11, 12, 13, 14, 15, 16, 17], [0, 1, 2, 3, 4, 5, 6, 7, 8, 9, 10, 11, 12, 13, 14, 15, 16, 17, 18], [0, 1, 2, 3, 4, 5, 6, 7, 8, 9, 10, 11, 12, 13, 14, 15, 16, 17, 18, 19], [0, 1, 2, 3, 4, 5, 6, 7, 8, 9, 10, 11, 12, 13, 14, 15, 16, 17, 18, 19, 20], [0, 1, 2, 3, 4, 5, 6, 7, 8, 9, 10, 11, 12, 13, 14, 15, 16, 17, 18, 19, 20, 21], [0, 1, 2, 3, 4, 5, 6, 7, 8, 9, 10, 11, 12, 13, 14, 15, 16, 17, 18, 19, 20, 21, 22], [0, 1, 2, 3, 4, 5, 6, 7, 8, 9, 10, 11, 12, 13, 14, 15, 16, 17, 18, 19, 20, 21, 22, 23], [0, 1, 2, 3, 4, 5, 6, 7, 8, 9, 10, 11, 12, 13, 14, 15, 16, 17, 18, 19, 20, 21, 22, 23, 24], [0, 1, 2, 3, 4, 5, 6, 7, 8, 9, 10, 11, 12, 13, 14, 15, 16, 17, 18, 19, 20, 21, 22, 23, 24, 25], [0, 1, 2, 3, 4, 5, 6, 7, 8, 9, 10, 11, 12, 13, 14, 15, 16, 17, 18, 19, 20, 21, 22, 23, 24, 25, 26], [0, 1, 2, 3, 4, 5, 6, 7, 8, 9, 10, 11, 12, 13, 14, 15, 16, 17, 18, 19, 20, 21, 22, 23, 24, 25, 26, 27], [0, 1, 2, 3, 4, 5, 6, 7, 8, 9, 10, 11, 12, 13, 14, 15, 16, 17, 18, 19, 20, 21, 22, 23, 24, 25, 26, 27, 28], [0, 1, 2, 3, 4, 5, 6, 7, 8, 9, 10, 11, 12, 13, 14, 15, 16, 17, 18, 19, 20, 21, 22, 23, 24, 25, 26, 27, 28, 29], [0, 1, 2, 3, 4, 5, 6, 7, 8, 9, 10, 11, 12, 13, 14, 15, 16, 17, 18, 19, 20, 21, 22, 23, 24, 25, 26, 27, 28, 29, 30], [0, 1, 2, 3, 4, 5, 6, 7, 8, 9, 10, 11, 12, 13, 14, 15, 16, 17, 18, 19, 20, 21, 22, 23, 24, 25, 26, 27, 28, 29, 30, 31], [0, 1, 2, 3, 4, 5, 6, 7, 8, 9, 10, 11, 12, 13, 14, 15, 16, 17, 18, 19, 20, 21, 22, 23, 24, 25, 26, 27, 28, 29, 30, 31, 32], [0, 1, 2, 3, 4, 5, 6, 7, 8, 9, 10, 11, 12, 13, 14, 15, 16, 17, 18, 19, 20, 21, 22, 23, 24, 25, 26, 27, 28, 29, 30, 31], [0, 1, 2, 3, 4, 5, 6, 7, 8, 9, 10, 11, 12, 13, 14, 15, 16, 17, 18, 19, 20, 21, 22, 23, 24, 25, 26, 27, 28, 29, 30, 31, 34], [0, 1, 2, 3, 4, 5, 6, 7, 8, 9, 10, 11, 12, 13, 14, 15, 16, 17, 18, 19, 20, 21, 22, 23, 24, 25, 26, 27, 28, 29, 30, 31, 32, 33, 34, 35], [0, 1, 2, 3, 4, 5, 6, 7, 8, 9, 10, 11, 12, 13, 14, 15, 16, 17, 18, 19, 20, 21, 22, 23, 24, 25, 26, 27, 28, 29, 30, 31, 32, 33, 34, 35, 36], [0, 1, 2, 3, 4, 5, 6, 7, 8, 9, 10, 11, 12, 13, 14, 15, 16, 17, 18, 19, 20, 21, 22, 23, 24, 25, 26, 27, 28, 29, 30, 31, 32, 33, 34, 35, 36, 37], [0, 1, 2, 3, 4, 5, 6, 7, 8, 9, 10, 11, 12, 13, 14, 15, 16, 17, 18, 19, 20, 21, 22, 23, 24, 25, 26, 27, 28, 29, 30, 31, 32, 33, 34, 35, 36, 37, 38], [0, 1, 2, 3, 4, 5, 6, 7, 8, 9, 10, 11, 12, 13, 14, 15, 16, 17, 18, 19, 20, 21, 22, 23, 24, 25, 26, 27, 28, 29, 30, 31, 32, 33, 34, 35, 36, 37, 38, 39], [0, 1, 2, 3, 4, 5, 6, 7, 8, 9, 10, 11, 12, 13, 14, 15, 16, 17, 18, 19, 20, 21, 22, 23, 24, 25, 26, 27, 28, 29, 30, 31, 32, 33, 34, 35, 36, 37, 38, 39, 40], [0, 1, 2, 3, 4, 5, 6, 7, 8, 9, 10, 11, 12, 13, 14, 15, 16, 17, 18, 19, 20, 21, 22, 23, 24, 25, 26, 27, 28, 29, 30, 31, 32, 33, 34, 35, 36, 37, 38, 39, 40, 41], [0, 1, 2, 3, 4, 5, 6, 7, 8, 9, 10, 11, 12, 13, 14, 15, 16, 17, 18, 19, 20, 21, 22, 23, 24, 25, 26, 27, 28, 29, 30, 31, 32, 33, 34, 35, 36, 37, 38, 39, 40, 41, 42], [0, 1, 2, 3, 4, 5, 6, 7, 8, 9, 10, 11, 12, 13, 14, 15, 16, 17, 18, 19, 20, 21, 22, 23, 24, 25, 26, 27, 28, 29, 30, 31, 32, 33, 34, 35, 36, 37, 38, 39, 40, 41, 42, 43], [0, 1, 2, 3, 4, 5, 6, 7, 8, 9, 10, 11, 12, 13, 14, 15, 16, 17, 18, 19, 20, 21, 22, 23, 24, 25, 26, 27, 28, 29, 30, 31, 32, 33, 34, 35, 36, 37, 38, 39, 40, 41, 42], [0, 1, 2, 3, 4, 5, 6, 7, 8, 9, 10, 11, 12, 13, 14, 15, 16, 17, 18, 19, 20, 21, 22, 23, 24, 25, 26, 27, 28, 29, 30, 31, 32, 33, 34, 35, 36, 37, 38, 39, 40, 41, 42, 45], [0, 1, 2, 3, 4, 5, 6, 7, 8, 9, 10, 11, 12, 13, 14, 15, 16, 17, 18, 19, 20, 21, 22, 23, 24, 25, 26, 27, 28, 29, 30, 31, 32, 33, 34, 35, 36, 37, 38, 39, 40, 41, 42, 43, 44, 45, 46], [0, 1, 2, 3, 4, 5, 6, 7, 8, 9, 10, 11, 12, 13, 14, 15, 16, 17, 18, 19, 20, 21, 22, 23, 24, 25, 26, 27, 28, 29, 30, 31, 32, 33, 34, 35, 36, 37, 38, 39, 40, 41, 42, 43, 44, 45, 46, 47], [0, 1, 2, 3, 4, 5, 6, 7, 8, 9, 10, 11, 12, 13, 14, 15, 16, 17, 18, 19, 20, 21, 22, 23, 24, 25, 26, 27, 28, 29, 30, 31, 32, 33, 34, 35, 36, 37, 38, 39, 40, 41, 42], [0, 1, 2, 3, 4, 5, 6, 7, 8, 9, 10, 11, 12, 13, 14, 15, 16, 17, 18, 19, 20, 21, 22, 23, 24, 25, 26, 27, 28, 29, 30, 31, 32, 33, 34, 35, 36, 37, 38, 39, 40, 41, 42, 43, 44, 45, 46, 47, 48, 49], [0, 1, 2, 3, 4, 5, 6, 7, 8, 9, 10, 11, 12, 13, 14, 15, 16, 17, 18, 19, 20, 21, 22, 23, 24, 25, 26, 27, 28, 29, 30, 31, 32, 33, 34, 35, 36, 37, 38, 39, 40, 41, 42, 43, 44, 45, 46, 47, 48, 49, 50], [0, 1, 2, 3, 4, 5, 6, 7, 8, 9, 10, 11, 12, 13, 14, 15, 16, 17, 18, 19, 20, 21, 22, 23, 24, 25, 26, 27, 28, 29, 30, 31, 32, 33, 34, 35, 36, 37, 38, 39, 40, 41, 42, 43, 44, 45, 46, 47, 48, 49, 50, 51], [0, 1, 2, 3, 4, 5, 6, 7, 8, 9, 10, 11, 12, 13, 14, 15, 16, 17, 18, 19, 20, 21, 22, 23, 24, 25, 26, 27, 28, 29, 30, 31, 32, 33, 34, 35, 36, 37, 38, 39, 40, 41, 42, 43, 44, 45, 46, 47, 48, 49, 50, 51, 52]] [] (by kernel_rfl) (by kernel_rfl) (by simp [apartW, unordB, cC] <;> omega)) | (apply Xg.s; constructor)) | (apply Ab.K.at_; exact at_) | (apply Ab.K.acall; first | assumption | first | exact c41 | exact c22 | exact c42y) | (apply Ab.Rg.mk; omega) | (apply Ab.Lt.mk; first | decide | (simp; done) | (simp; omega) | first | omega | (show (0 + 5 : Nat) < 5 + 1; decide)) | (apply Ab.Get.mk; first | rfl | first | rfl) | (apply Ab.Nm.mk; first | first | exact Eq.trans (congrArg (fun z => List.take _ (List.drop (z * 5) cs)) (Int.toNat_natCast i')) hE | exact (show ((kc x).drop 0).take 5 = kc x from rfl) | exact Eq.trans (congrArg (fun z => List.take _ (List.drop (z * 5) cs)) (show ((i' : Int) - 1).toNat = i' - 1 from by omega)) hEy | exact nrm_) | (apply Xg.s; constructor) | (apply Ab.asm; assumption) | rfl | infer_instance | decide))
          rw [← hs2]
          exact X.roundN (m - (i' + 1)) (by omega) ⟨i' + 1, M + 1, by exact ev_, by exact ev_, by exact ev_, by exact ev_, a12, F2, T2, by omega, P1, by omega, rfl⟩
        · have hno : mvB nodes L = false := mvB_no fun h => by
            rcases (hnx.1 (LP.of h.2 _)).2 with h1 | ⟨y', h1, h2⟩
            · exact hi0 h1
            · rw [hy] at h1; obtain rfl := Option.some.inj h1; exact hyx h2
          rw [hno]
          have hge : ord2 y x ≥ 0 := Int.not_lt.1 fun h => hyx (ord2_neg.1 h)
          (repeat' (first | (apply Ab.K.ev; exact ev_) | (apply Ab.K.aops; first | (apply Xg.s; constructor) | (apply Ab.S.guardU; (case hd => rfl); (case hb => (exact ev_; done))) | apply Ab.S.guardG) | (apply Ab.K.aop; first | (first | (apply Ab.O.allocA (l := kc ⟨0, 0, 0, 0, false⟩) M; (case hid => exact T.free (Nat.le_refl _)); (case hp => rfl)) | (apply Ab.O.storeAll; (case hz => rfl); (case hx => exact ev_); (case hy => exact ev_); (case hs => exact at_); (case hl => rfl); (case hc => rfl))) | (apply Og.s; constructor)) | (apply Ab.K.gk; first | (apply Xg.s; constructor) | (apply Ab.gY; case hw => assumption) | (apply Ab.gNT; case hw => assumption) | (apply Ab.gNF; case hw => assumption) | ((first | apply Ab.gD | apply Ab.gDN); all_goals (intro _ _; (first | contradiction | (exfalso; omega) | skip)))) | (apply Ab.K.aopsD; first | (apply Ab.D.q0t; (case hw => rfl); (case hot => rfl)) | (apply Ab.D.w1t; (case hw => rfl); (case hot => rfl)) | (apply Ab.D.q0; (case hw => rfl); intro _ _) | (apply Ab.D.w1n; (case hw => rfl); intro _ _) | (apply Ab.D.w2n; (case hw => rfl); intro _ _) | (apply Xg.s; constructor) | (apply Ab.D.guardU; (case hd => rfl); (case hb => (exact ev_; done))) | apply Ab.D.guardG) | exact ⟨rfl, rfl⟩ | (apply Ab.K.awp; first | (apply AWp.draw (id := 10) [[], [0], [0, 1], [0, 1, 2], [0, 1, 2, 3], [0, 1, 2, 3, 4], [0, 1, 2, 3, 4, 5], [0, 1, 2, 3, 4], [0, 1, 2, 3, 4, 7], [0, 1, 2, 3, 4, 5, 6, 7, 8], [0, 1, 2, 3, 4, 5, 6, 7, 8, 9], [0, 1, 2, 3, 4, 5, 6, 7, 8, 9, 10], [0, 1, 2, 3, 4, 5, 6, 7, 8, 9, 10, 11], [0, 1, 2, 3, 4, 5, 6, 7, 8, 9, 10, 11, 12], [0, 1, 2, 3, 4, 5, 6, 7, 8, 9, 10, 11, 12, 13], [0, 1, 2, 3, 4, 5, 6, 7, 8, 9, 10, 11, 12, 13, 14], [0, 1, 2, 3, 4, 5, 6, 7, 8, 9, 10, 11, 12, 13, 14, 15], [0, 1, 2, 3, 4, 5, 6, 7, 8, 9, 10, 11, 12, 13, 14, 15, 16], [0, 1, 2, 3, 4, 5, 6, 7, 8, 9, 10, 11, 12, 13, 14, 15, 16, 17], [0, 1, 2, 3, 4, 5, 6, 7, 8, 9, 10, 11, 12, 13, 14, 15, 16, 17, 18], [0, 1, 2, 3, 4, 5, 6, 7, 8, 9, 10, 11, 12, 13, 14, 15, 16, 17, 18, 19], [0, 1, 2, 3, 4, 5, 6, 7, 8, 9, 10, 11, 12, 13, 14, 15, 16, 17, 18, 19, 20], [0, 1, 2, 3, 4, 5, 6, 7, 8, 9, 10, 11, 12, 13, 14, 15, 16, 17, 18, 19, 20, 21], [0, 1, 2, 3, 4, 5, 6, 7, 8, 9, 10, 11, 12, 13, 14, 15, 16, 17, 18, 19, 20, 21, 22], [0, 1, 2, 3, 4, 5, 6, 7, 8, 9, 10, 11, 12, 13, 14, 15, 16, 17, 18, 19, 20, 21, 22, 23], [0, 1, 2, 3, 4, 5, 6, 7, 8, 9, 10, 11, 12, 13, 14, 15, 16, 17, 18, 19, 20, 21, 22, 23, 24], [0, 1, 2, 3, 4, 5, 6, 7, 8, 9, 10, 11, 12, 13, 14, 15, 16, 17, 18, 19, 20, 21, 22, 23, 24, 25], [0, 1, 2, 3, 4, 5, 6, 7, 8, 9, 10, 11, 12, 13, 14, 15, 16, 17, 18, 19, 20, 21, 22, 23, 24, 25, 26], [0, 1, 2, 3, 4, 5, 6, 7, 8, 9, 10, 11, 12, 13, 14, 15, 16, 17, 18, 19, 20, 21, 22, 23, 24, 25, 26, 27], [0, 1, 2, 3, 4, 5, 6, 7, 8, 9, 10, 11, 12, 13, 14, 15, 16, 17, 18, 19, 20, 21, 22, 23, 24, 25, 26, 27, 28], [0, 1, 2, 3, 4, 5, 6, 7, 8, 9, 10, 11, 12, 13, 14, 15, 16, 17, 18, 19, 20, 21, 22, 23, 24, 25, 26, 27, 28, 29], [0, 1, 2, 3, 4, 5, 6, 7, 8, 9, 10, 11, 12, 13, 14, 15, 16, 17, 18, 19, 20, 21, 22, 23, 24, 25, 26, 27, 28, 29, 30], [0, 1, 2, 3, 4, 5, 6, 7, 8, 9, 10, 11, 12, 13, 14, 15, 16, 17, 18, 19, 20, 21, 22, 23, 24, 25, 26, 27, 28, 29, 30, 31], [0, 1, 2, 3, 4, 5, 6, 7, 8, 9, 10, 11, 12, 13, 14, 15, 16, 17, 18, 19, 20, 21, 22, 23, 24, 25, 26, 27, 28, 29, 30, 31, 32], [0, 1, 2, 3, 4, 5, 6, 7, 8, 9, 10, 11, 12, 13, 14, 15, 16, 17, 18, 19, 20, 21, 22, 23, 24, 25, 26, 27, 28, 29, 30, 31], [0, 1, 2, 3, 4, 5, 6, 7, 8, 9, 10, 11, 12, 13, 14, 15, 16, 17, 18, 19, 20, 21, 22, 23, 24, 25, 26, 27, 28, 29, 30, 31, 34], [0, 1, 2, 3, 4, 5, 6, 7, 8, 9, 10, 11, 12, 13, 14, 15, 16, 17, 18, 19, 20, 21, 22, 23, 24, 25, 26, 27, 28, 29, 30, 31, 32, 33, 34, 35], [0, 1, 2, 3, 4, 5, 6, 7, 8, 9, 10, 11, 12, 13, 14, 15, 16, 17, 18, 19, 20, 21, 22, 23, 24, 25, 26, 27, 28, 29, 30, 31, 32, 33, 34, 35, 36], [0, 1, 2, 3, 4, 5, 6, 7, 8, 9, 10, 11, 12, 13, 14, 15, 16, 17, 18, 19, 20, 21, 22, 23, 24, 25, 26, 27, 28, 29, 30, 31, 32, 33, 34, 35, 36, 37], [0, 1, 2, 3, 4, 5, 6, 7, 8, 9, 10, 11, 12, 13, 14, 15, 16, 17, 18, 19, 20, 21, 22, 23, 24, 25, 26, 27, 28, 29, 30, 31, 32, 33, 34, 35, 36, 37, 38], [0, 1, 2, 3, 4, 5, 6, 7, 8, 9, 10, 11, 12, 13, 14, 15, 16, 17, 18, 19, 20, 21, 22, 23, 24, 25, 26, 27, 28, 29, 30, 31, 32, 33, 34, 35, 36, 37, 38, 39], [0, 1, 2, 3, 4, 5, 6, 7, 8, 9, 10, 11, 12, 13, 14, 15, 16, 17, 18, 19, 20, 21, 22, 23, 24, 25, 26, 27, 28, 29, 30, 31, 32, 33, 34, 35, 36, 37, 38, 39, 40], [0, 1, 2, 3, 4, 5, 6, 7, 8, 9, 10, 11, 12, 13, 14, 15, 16, 17, 18, 19, 20, 21, 22, 23, 24, 25, 26, 27, 28, 29, 30, 31, 32, 33, 34, 35, 36, 37, 38, 39, 40, 41], [0, 1, 2, 3, 4, 5, 6, 7, 8, 9, 10, 11, 12, 13, 14, 15, 16, 17, 18, 19, 20, 21, 22, 23, 24, 25, 26, 27, 28, 29, 30, 31, 32, 33, 34, 35, 36, 37, 38, 39, 40, 41, 42], [0, 1, 2, 3, 4, 5, 6, 7, 8, 9, 10, 11, 12, 13, 14, 15, 16, 17, 18, 19, 20, 21, 22, 23, 24, 25, 26, 27, 28, 29, 30, 31, 32, 33, 34, 35, 36, 37, 38, 39, 40, 41, 42, 43], [0, 1, 2, 3, 4, 5, 6, 7, 8, 9, 10, 11, 12, 13, 14, 15, 16, 17, 18, 19, 20, 21, 22, 23, 24, 25, 26, 27, 28, 29, 30, 31, 32, 33, 34, 35, 36, 37, 38, 39, 40, 41, 42], [0, 1, 2, 3, 4, 5, 6, 7, 8, 9, 10, 11, 12, 13, 14, 15, 16, 17, 18, 19, 20, 21, 22, 23, 24, 25, 26, 27, 28, 29, 30, 31, 32, 33, 34, 35, 36, 37, 38, 39, 40, 41, 42, 45], [0, 1, 2, 3, 4, 5, 6, 7, 8, 9, 10, 11, 12, 13, 14, 15, 16, 17, 18, 19, 20, 21, 22, 23, 24, 25, 26, 27, 28, 29, 30, 31, 32, 33, 34, 35, 36, 37, 38, 39, 40, 41, 42, 43, 44, 45, 46], [0, 1, 2, 3, 4, 5, 6, 7, 8, 9, 10, 11, 12, 13, 14, 15, 16, 17, 18, 19, 20, 21, 22, 23, 24, 25, 26, 27, 28, 29, 30, 31, 32, 33, 34, 35, 36, 37, 38, 39, 40, 41, 42, 43, 44, 45, 46, 47], [0, 1, 2, 3, 4, 5, 6, 7, 8, 9, 10, 11, 12, 13, 14, 15, 16, 17, 18, 19, 20, 21, 22, 23, 24, 25, 26, 27, 28, 29, 30, 31, 32, 33, 34, 35, 36, 37, 38, 39, 40, 41, 42], [0, 1, 2, 3, 4, 5, 6, 7, 8, 9, 10, 11, 12, 13, 14, 15, 16, 17, 18, 19, 20, 21, 22, 23, 24, 25, 26, 27, 28, 29, 30, 31, 32, 33, 34, 35, 36, 37, 38, 39, 40, 41, 42, 43, 44, 45, 46, 47, 48, 49], [0, 1, 2, 3, 4, 5, 6, 7, 8, 9, 10, 11, 12, 13, 14, 15, 16, 17, 18, 19, 20, 21, 22, 23, 24, 25, 26, 27, 28, 29, 30, 31, 32, 33, 34, 35, 36, 37, 38, 39, 40, 41, 42, 43, 44, 45, 46, 47, 48, 49, 50], [0, 1, 2, 3, 4, 5, 6, 7, 8, 9, 10, 11, 12, 13, 14, 15, 16, 17, 18, 19, 20, 21, 22, 23, 24, 25, 26, 27, 28, 29, 30, 31, 32, 33, 34, 35, 36, 37, 38, 39, 40, 41, 42, 43, 44, 45, 46, 47, 48, 49, 50, 51], [0, 1, 2, 3, 4, 5, 6, 7, 8, 9, 10, 11, 12, 13, 14, 15, 16, 17, 18, 19, 20, 21, 22, 23, 24, 25, 26, 27, 28, 29, 30, 31, 32, 33, 34, 35, 36, 37, 38, 39, 40, 41, 42, 43, 44, 45, 46, 47, 48, 49, 50, 51, 52]] [] (by kernel_rfl) (by kernel_rfl) (by simp [apartW, unordB, cC] <;> omega)) | (apply Xg.s; constructor)) | (apply Ab.K.at_; exact at_) | (apply Ab.K.acall; first | assumption | first | exact c41 | exact c22 | exact c42y) | (apply Ab.Rg.mk; omega) | (apply Ab.Lt.mk; first | decide | (simp; done) | (simp; omega) | first | omega | (show (0 + 5 : Nat) < 5 + 1; decide)) | (apply Ab.Get.mk; first | rfl | first | rfl) | (apply Ab.Nm.mk; first | first | exact Eq.trans (congrArg (fun z => List.take _ (List.drop (z * 5) cs)) (Int.toNat_natCast i')) hE | exact (show ((kc x).drop 0).take 5 = kc x from rfl) | exact Eq.trans (congrArg (fun z => List.take _ (List.drop (z * 5) cs)) (show ((i' : Int) - 1).toNat = i' - 1 from by omega)) hEy | exact nrm_) | (apply Xg.s; constructor) | (apply Ab.asm; assumption) | rfl | infer_instance | decide))
          all_goals ((first | apply RetQ.ret | apply RetQ.normal); (case he => exact evr_); (case hg => rfl))
          all_goals first | rfl | (rw [← hs2]; exact Keeps.fr F2 (plR.nm rfl))
    · have hno : mvB nodes L = false := mvB_no fun h => hok (hnx.1 (LP.of h.2 _)).1
      rw [hno]
      rcases ok_notV hok with k | k | k | k | k | k | k
      all_goals (try obtain ⟨k1, k⟩ := k)
      all_goals (try obtain ⟨k2, k⟩ := k)
      all_goals (try obtain ⟨k3, k⟩ := k)
      all_goals (try obtain ⟨k4, k⟩ := k)
      all_goals (try obtain ⟨k5, k⟩ := k)
      all_goals (try obtain ⟨k6, k⟩ := k)
      all_goals (repeat' (first | (apply Ab.K.ev; exact ev_) | (apply Ab.K.aops; first | (apply Xg.s; constructor) | (apply Ab.S.guardU; (case hd => rfl); (case hb => (exact ev_; done))) | apply Ab.S.guardG) | (apply Ab.K.aop; first | (first | (apply Ab.O.allocA (l := kc ⟨0, 0, 0, 0, false⟩) M; (case hid => exact T.free (Nat.le_refl _)); (case hp => rfl)) | (apply Ab.O.storeAll; (case hz => rfl); (case hx => exact ev_); (case hy => exact ev_); (case hs => exact at_); (case hl => rfl); (case hc => rfl))) | (apply Og.s; constructor)) | (apply Ab.K.gk; first | (apply Xg.s; constructor) | (apply Ab.gY; case hw => assumption) | (apply Ab.gNT; case hw => assumption) | (apply Ab.gNF; case hw => assumption) | ((first | apply Ab.gD | apply Ab.gDN); all_goals (intro _ _; (first | contradiction | (exfalso; omega) | skip)))) | (apply Ab.K.aopsD; first | (apply Ab.D.q0t; (case hw => rfl); (case hot => rfl)) | (apply Ab.D.w1t; (case hw => rfl); (case hot => rfl)) | (apply Ab.D.q0; (case hw => rfl); intro _ _) | (apply Ab.D.w1n; (case hw => rfl); intro _ _) | (apply Ab.D.w2n; (case hw => rfl); intro _ _) | (apply Xg.s; constructor) | (apply Ab.D.guardU; (case hd => rfl); (case hb => (exact ev_; done))) | apply Ab.D.guardG) | exact ⟨rfl, rfl⟩ | (apply Ab.K.awp; first | (apply AWp.draw (id := 10) [[], [0], [0, 1], [0, 1, 2], [0, 1, 2, 3], [0, 1, 2, 3, 4], [0, 1, 2, 3, 4, 5], [0, 1, 2, 3, 4], [0, 1, 2, 3, 4, 7], [0, 1, 2, 3, 4, 5, 6, 7, 8], [0, 1, 2, 3, 4, 5, 6, 7, 8, 9], [0, 1, 2, 3, 4, 5, 6, 7, 8, 9, 10], [0, 1, 2, 3, 4, 5, 6, 7, 8, 9, 10, 11], [0, 1, 2, 3, 4, 5, 6, 7, 8, 9, 10, 11, 12], [0, 1, 2, 3, 4, 5, 6, 7, 8, 9, 10, 11, 12, 13], [0, 1, 2, 3, 4, 5, 6, 7, 8, 9, 10, 11, 12, 13, 14], [0, 1, 2, 3, 4, 5, 6, 7, 8, 9, 10, 11, 12, 13, 14, 15], [0, 1, 2, 3, 4, 5, 6, 7, 8, 9, 10, 11, 12, 13, 14, 15, 16], [0, 1, 2, 3, 4, 5, 6, 7, 8, 9, 10, 11, 12, 13, 14, 15, 16, 17], [0, 1, 2, 3, 4, 5, 6, 7, 8, 9, 10, 11, 12, 13, 14, 15, 16, 17, 18], [0, 1, 2, 3, 4, 5, 6, 7, 8, 9, 10, 11, 12, 13, 14, 15, 16, 17, 18, 19], [0, 1, 2, 3, 4, 5, 6, 7, 8, 9, 10, 11, 12, 13, 14, 15, 16, 17, 18, 19, 20], [0, 1, 2, 3, 4, 5, 6, 7, 8, 9, 10, 11, 12, 13, 14, 15, 16, 17, 18, 19, 20, 21], [0, 1, 2, 3, 4, 5, 6, 7, 8, 9, 10, 11, 12, 13, 14, 15, 16, 17, 18, 19, 20, 21, 22], [0, 1, 2, 3, 4, 5, 6, 7, 8, 9, 10, 11, 12, 13, 14, 15, 16, 17, 18, 19, 20, 21, 22, 23], [0, 1, 2, 3, 4, 5, 6, 7, 8, 9, 10, 11, 12, 13, 14, 15, 16, 17, 18, 19, 20, 21, 22, 23, 24], [0, 1, 2, 3, 4, 5, 6, 7, 8, 9, 10, 11, 12, 13, 14, 15, 16, 17, 18, 19, 20, 21, 22, 23, 24, 25], [0, 1, 2, 3, 4, 5, 6, 7, 8, 9, 10, 11, 12, 13, 14, 15, 16, 17, 18, 19, 20, 21, 22, 23, 24, 25, 26], [0, 1, 2, 3, 4, 5, 6, 7, 8, 9, 10, 11, 12, 13, 14, 15, 16, 17, 18, 19, 20, 21, 22, 23, 24, 25, 26, 27], [0, 1, 2, 3, 4, 5, 6, 7, 8, 9, 10, 11, 12, 13, 14, 15, 16, 17, 18, 19, 20, 21, 22, 23, 24, 25, 26, 27, 28], [0, 1, 2, 3, 4, 5, 6, 7, 8, 9, 10, 11, 12, 13, 14, 15, 16, 17, 18, 19, 20, 21, 22, 23, 24, 25, 26, 27, 28, 29], [0, 1, 2, 3, 4, 5, 6, 7, 8, 9, 10, 11, 12, 13, 14, 15, 16, 17, 18, 19, 20, 21, 22, 23, 24, 25, 26, 27, 28, 29, 30], [0, 1, 2, 3, 4, 5, 6, 7, 8, 9, 10, 11, 12, 13, 14, 15, 16, 17, 18, 19, 20, 21, 22, 23, 24, 25, 26, 27, 28, 29, 30, 31], [0, 1, 2, 3, 4, 5, 6, 7, 8, 9, 10, 11, 12, 13, 14, 15, 16, 17, 18, 19, 20, 21, 22, 23, 24, 25, 26, 27, 28, 29, 30, 31, 32], [0, 1, 2, 3, 4, 5, 6, 7, 8, 9, 10, 11, 12, 13, 14, 15, 16, 17, 18, 19, 20, 21, 22, 23, 24, 25, 26, 27, 28, 29, 30, 31], [0, 1, 2, 3, 4, 5, 6, 7, 8, 9, 10, 11, 12, 13, 14, 15, 16, 17, 18, 19, 20, 21, 22, 23, 24, 25, 26, 27, 28, 29, 30, 31, 34], [0, 1, 2, 3, 4, 5, 6, 7, 8, 9, 10, 11, 12, 13, 14, 15, 16, 17, 18, 19, 20, 21, 22, 23, 24, 25, 26, 27, 28, 29, 30, 31, 32, 33, 34, 35], [0, 1, 2, 3, 4, 5, 6, 7, 8, 9, 10, 11, 12, 13, 14, 15, 16, 17, 18, 19, 20, 21, 22, 23, 24, 25, 26, 27, 28, 29, 30, 31, 32, 33, 34, 35, 36], [0, 1, 2, 3, 4, 5, 6, 7, 8, 9, 10, 11, 12, 13, 14, 15, 16, 17, 18, 19, 20, 21, 22, 23, 24, 25, 26, 27, 28, 29, 30, 31, 32, 33, 34, 35, 36, 37], [0, 1, 2, 3, 4, 5, 6, 7, 8, 9, 10, 11, 12, 13, 14, 15, 16, 17, 18, 19, 20, 21, 22, 23, 24, 25, 26, 27, 28, 29, 30, 31, 32, 33, 34, 35, 36, 37, 38], [0, 1, 2, 3, 4, 5, 6, 7, 8, 9, 10, 11, 12, 13, 14, 15, 16, 17, 18, 19, 20, 21, 22, 23, 24, 25, 26, 27, 28, 29, 30, 31, 32, 33, 34, 35, 36, 37, 38, 39], [0, 1, 2, 3, 4, 5, 6, 7, 8, 9, 10, 11, 12, 13, 14, 15, 16, 17, 18, 19, 20, 21, 22, 23, 24, 25, 26, 27, 28, 29, 30, 31, 32, 33, 34, 35, 36, 37, 38, 39, 40], [0, 1, 2, 3, 4, 5, 6, 7, 8, 9, 10, 11, 12, 13, 14, 15, 16, 17, 18, 19, 20, 21, 22, 23, 24, 25, 26, 27, 28, 29, 30, 31, 32, 33, 34, 35, 36, 37, 38, 39, 40, 41], [0, 1, 2, 3, 4, 5, 6, 7, 8, 9, 10, 11, 12, 13, 14, 15, 16, 17, 18, 19, 20, 21, 22, 23, 24, 25, 26, 27, 28, 29, 30, 31, 32, 33, 34, 35, 36, 37, 38, 39, 40, 41, 42], [0, 1, 2, 3, 4, 5, 6, 7, 8, 9, 10, 11, 12, 13, 14, 15, 16, 17, 18, 19, 20, 21, 22, 23, 24, 25, 26, 27, 28, 29, 30, 31, 32, 33, 34, 35, 36, 37, 38, 39, 40, 41, 42, 43], [0, 1, 2, 3, 4, 5, 6, 7, 8, 9, 10, 11, 12, 13, 14, 15, 16, 17, 18, 19, 20, 21, 22, 23, 24, 25, 26, 27, 28, 29, 30, 31, 32, 33, 34, 35, 36, 37, 38, 39, 40, 41, 42], [0, 1, 2, 3, 4, 5, 6, 7, 8, 9, 10, 11, 12, 13, 14, 15, 16, 17, 18, 19, 20, 21, 22, 23, 24, 25, 26, 27, 28, 29, 30, 31, 32, 33, 34, 35, 36, 37, 38, 39, 40, 41, 42, 45], [0, 1, 2, 3, 4, 5, 6, 7, 8, 9, 10, 11, 12, 13, 14, 15, 16, 17, 18, 19, 20, 21, 22, 23, 24, 25, 26, 27, 28, 29, 30, 31, 32, 33, 34, 35, 36, 37, 38, 39, 40, 41, 42, 43, 44, 45, 46], [0, 1, 2, 3, 4, 5, 6, 7, 8, 9, 10, 11, 12, 13, 14, 15, 16, 17, 18, 19, 20, 21, 22, 23, 24, 25, 26, 27, 28, 29, 30, 31, 32, 33, 34, 35, 36, 37, 38, 39, 40, 41, 42, 43, 44, 45, 46, 47], [0, 1, 2, 3, 4, 5, 6, 7, 8, 9, 10, 11, 12, 13, 14, 15, 16, 17, 18, 19, 20, 21, 22, 23, 24, 25, 26, 27, 28, 29, 30, 31, 32, 33, 34, 35, 36, 37, 38, 39, 40, 41, 42], [0, 1, 2, 3, 4, 5, 6, 7, 8, 9, 10, 11, 12, 13, 14, 15, 16, 17, 18, 19, 20, 21, 22, 23, 24, 25, 26, 27, 28, 29, 30, 31, 32, 33, 34, 35, 36, 37, 38, 39, 40, 41, 42, 43, 44, 45, 46, 47, 48, 49], [0, 1, 2, 3, 4, 5, 6, 7, 8, 9, 10, 11, 12, 13, 14, 15, 16, 17, 18, 19, 20, 21, 22, 23, 24, 25, 26, 27, 28, 29, 30, 31, 32, 33, 34, 35, 36, 37, 38, 39, 40, 41, 42, 43, 44, 45, 46, 47, 48, 49, 50], [0, 1, 2, 3, 4, 5, 6, 7, 8, 9, 10, 11, 12, 13, 14, 15, 16, 17, 18, 19, 20, 21, 22, 23, 24, 25, 26, 27, 28, 29, 30, 31, 32, 33, 34, 35, 36, 37, 38, 39, 40, 41, 42, 43, 44, 45, 46, 47, 48, 49, 50, 51], [0, 1, 2, 3, 4, 5, 6, 7, 8, 9, 10, 11, 12, 13, 14, 15, 16, 17, 18, 19, 20, 21, 22, 23, 24, 25, 26, 27, 28, 29, 30, 31, 32, 33, 34, 35, 36, 37, 38, 39, 40, 41, 42, 43, 44, 45, 46, 47, 48, 49, 50, 51, 52]] [] (by kernel_rfl) (by kernel_rfl) (by simp [apartW, unordB, cC] <;> omega)) | (apply Xg.s; constructor)) | (apply Ab.K.at_; exact at_) | (apply Ab.K.acall; first | assumption | first | exact c41 | exact c22) | (apply Ab.Rg.mk; omega) | (apply Ab.Lt.mk; first | decide | (simp; done) | (simp; omega) | first | omega | (show (0 + 5 : Nat) < 5 + 1; decide)) | (apply Ab.Get.mk; first | rfl | first | rfl) | (apply Ab.Nm.mk; first | first | exact Eq.trans (congrArg (fun z => List.take _ (List.drop (z * 5) cs)) (Int.toNat_natCast i')) hE | exact (show ((kc x).drop 0).take 5 = kc x from rfl) | exact Eq.trans (congrArg (fun z => List.take _ (List.drop (z * 5) cs)) (show ((i' : Int) - 1).toNat = i' - 1 from by omega)) hEy | exact nrm_) | (apply Xg.s; constructor) | (apply Ab.asm; assumption) | rfl | infer_instance | decide))
      all_goals ((first | apply RetQ.ret | apply RetQ.normal); (case he => exact evr_); (case hg => rfl))
      all_goals first | rfl | (rw [← hs2]; exact Keeps.fr F2 (plR.nm rfl))
  · have hLO : LOk nodes L := P.all (by omega)
    have hyes : mvB nodes L = true := mvB_iff.2 ⟨hNO, hLO⟩
    rw [hyes]

    (repeat' (first | (apply Ab.K.ev; exact ev_) | (apply Ab.K.aops; first | (apply Xg.s; constructor) | (apply Ab.S.guardU; (case hd => rfl); (case hb => (exact ev_; done))) | apply Ab.S.guardG) | (apply Ab.K.aop; first | (apply Og.s; constructor)) | (apply Ab.K.gk; first | (apply Xg.s; constructor) | (apply Ab.gY; case hw => assumption) | (apply Ab.gNT; case hw => assumption) | (apply Ab.gNF; case hw => assumption) | ((first | apply Ab.gD | apply Ab.gDN); all_goals (intro _ _; (first | contradiction | (exfalso; omega) | skip)))) | (apply Ab.K.awp; first | (apply Xg.s; constructor)) | (apply Ab.K.at_; exact at_) | (apply Ab.K.acall; first | assumption | fail) | (apply Ab.Rg.mk; omega) | (apply Ab.Lt.mk; first | decide | (simp; done) | (simp; omega) | first | omega | (show (0 + 5 : Nat) < 5 + 1; decide)) | (apply Ab.Get.mk; first | rfl | first | rfl) | (apply Ab.Nm.mk; first | first | exact Eq.trans (congrArg (fun z => List.take _ (List.drop (z * 5) cs)) (Int.toNat_natCast i')) hE | exact (show ((kc x).drop 0).take 5 = kc x from rfl) | exact Eq.trans (congrArg (fun z => List.take _ (List.drop (z * 5) cs)) (show ((i' : Int) - 1).toNat = i' - 1 from by omega)) hEy | exact nrm_) | (apply Xg.s; constructor) | (apply Ab.asm; assumption) | rfl | infer_instance | decide))
    all_goals ((first | apply RetQ.ret | apply RetQ.normal); (case he => exact evr_); (case hg => rfl))
    all_goals first | rfl | exact Keeps.fr F (plR.nm rfl)
end Go.Proofs.Ytdbnpghckgmaoaa

/- trees: the document's ways. -/
namespace Go.Proofs.Ytdbnpghckgmaoaa
set_option linter.unusedVariables false
set_option linter.unusedSimpArgs false
set_option linter.unusedSectionVars false
open Go.RowKit Ab TP
attribute [local irreducible] AOps AOpsD AOp AWp put nargs AHeap.set At Free ACall thenQ blockQ roundQ RetQ Src bsn
noncomputable def onL (l : List E) (a b : Int) : List E := l.filter fun e => !lkB (rm l e) a b
theorem onL_mem {l : List E} {a b : Int} (ha : TP.Node a) (hb : TP.Node b) {e : E} : e ∈ onL l a b ↔ e ∈ l ∧ ¬ Conn (rm l e) a b := by
  unfold onL
  rw [List.mem_filter]
  constructor
  · rintro ⟨h1, h2⟩
    refine ⟨h1, fun h => ?_⟩
    rw [lkB_iff.2 ⟨ha, hb, h⟩] at h2; cases h2
  · rintro ⟨h1, h2⟩
    refine ⟨h1, ?_⟩
    cases hk : lkB (rm l e) a b with
    | false => rfl
    | true => exact absurd (lkB_iff.1 hk).2.2 h2
theorem on25 {s : AHeap} {A : Option Addr} {n c : Nat} {on : Option Nat} {l : List E} {a b : Int} {o : Nat} (h : EA s (.slice A n c) on l) (hl : ∀ e ∈ l, TP.Node e.a ∧ TP.Node e.b) (hn : n ≤ 512) (ho : s o = none) :
    ACall Try.prog 35 [.slice A n c, .int .i64 a, .int .i64 b] s (.slice (some ⟨o, 0, none⟩) (onL l a b).length (onL l a b).length) (s.set o (.cells true 3 (ecs (onL l a b)))) := by
  have hnl : n = l.length := by obtain ⟨_, _, e⟩ := h.isl; injection e
  refine ACall.make Try.func35 rfl (by kernel_rfl) (by decide) rfl (fun N hN => ?_)
  have hT : Top N s := hN

  (repeat' (first | (apply Ab.K.ev; exact ev_) | (apply Ab.K.aops; first | (apply Xg.s; constructor) | (apply Ab.S.guardU; (case hd => rfl); (case hb => (exact ev_; done))) | apply Ab.S.guardG) | (apply Ab.K.aop; first | (apply Ab.O.build0 (N + 0) (te := ⟨.struct [(0, 3), (1, 3), (2, 3)], 3, 24, .agg #[.int .i64 0, .int .i64 0, .int .i64 0]⟩); (case hz => exact ⟨rfl, rfl⟩); (case hid => exact frees_)) | (apply Og.s; constructor)) | (apply Ab.K.gk; first | (apply Xg.s; constructor) | (apply Ab.gY; case hw => assumption) | (apply Ab.gNT; case hw => assumption) | (apply Ab.gNF; case hw => assumption) | ((first | apply Ab.gD | apply Ab.gDN); all_goals (intro _ _; (first | contradiction | (exfalso; omega) | skip)))) | (apply Ab.K.awp; first | (apply Xg.s; constructor)) | (apply Ab.K.at_; exact at_) | (apply Ab.K.acall; first | assumption | fail) | (apply Ab.Rg.mk; omega) | (apply Ab.Lt.mk; first | decide | (simp; done) | (simp; omega) | fail) | (apply Ab.Get.mk; first | rfl | fail) | (apply Ab.Nm.mk; first | exact nrm_) | (apply Xg.s; constructor) | (apply Ab.asm; assumption) | rfl | infer_instance | decide))
  refine AWp.loop (fun kk tm s1 => ∃ (i q M : Nat) (r : List E), Ev tm (.tmp 0) (.slice A n c) ∧ Ev tm (.tmp 1) (.int .i64 a) ∧ Ev tm (.tmp 2) (.int .i64 b) ∧ Ev tm (.tmp 7) (.slice (some ⟨q, 0, none⟩) r.length r.length) ∧ Ev tm (.tmp 8) (.int .i64 i) ∧ At s1 q (.cells true 3 (ecs r)) ∧ r = (l.take i).filter (fun e => !lkB (rm l e) a b) ∧ Fr s1 s [] ∧ N ≤ q ∧ Top M s1 ∧ i ≤ n ∧ kk = n - i) n ?_ ?_
  · exact ⟨0, N + 0, N + 1, [], by exact ev_, by exact ev_, by exact ev_, by exact ev_, by exact ev_, by exact at_, rfl, by exact fr_, Nat.le_refl _, hT.new, by omega, rfl⟩
  rintro kk tm s1 ⟨i, q, M, r, e0, e1, e2, e7, e8, a7, hr, F, hq, T, hi, hkk⟩
  have hqM := T.lt a7
  have hrl : r.length ≤ n := by rw [hr]; exact Nat.le_trans (List.length_filter_le _ _) (by rw [List.length_take]; omega)
  by_cases hin : i < n
  · have hi' : l[i]? = some (l[i]'(by omega)) := List.getElem?_eq_getElem (by omega)
    obtain ⟨f, hff⟩ : ∃ f, f = l[i]'(by omega) := ⟨_, rfl⟩
    rw [← hff] at hi'
    have htk : l.take (i + 1) = l.take i ++ [f] := by rw [List.take_add_one, hi']; rfl
    have h1 := h.fr F
    obtain ⟨q', rw1, cs, rfl, hon, _, hq', _, hE, _⟩ := h1.elt hi'
    have hqN := h.lt hT q' hon
    have hNM : N ≤ M := by omega
    have c37 := without37 (e := f) (o := M) h1 (by omega) (T.none (Nat.le_refl _))
    have h2 : EA (s1.set M (.cells true 3 (ecs (rm l f)))) (.slice (some ⟨M, 0, none⟩) (rm l f).length (rm l f).length) (some M) (rm l f) := EA.own At.hit
    have c9 := linked9 (a := a) (b := b) h2 (fun g hg => hl g (rm_sub g hg)) (Nat.lt_of_le_of_lt rm_len (by omega))


    cases hk : lkB (rm l f) a b
    · rw [hk] at c9
      have hr2 : r ++ [f] = (l.take (i + 1)).filter (fun e => !lkB (rm l e) a b) := by rw [htk, List.filter_append, ← hr]; simp [hk]
      (repeat' (first | (apply Ab.K.ev; exact ev_) | (apply Ab.K.aops; first | (apply Xg.s; constructor) | (apply Ab.S.guardU; (case hd => rfl); (case hb => (exact ev_; done))) | apply Ab.S.guardG) | (apply Ab.K.aop; first | (apply Ab.O.build1A (M + 1); (case hx => exact ev_); (case hl => rfl); (case hz => exact ⟨rfl, rfl⟩); (case hes => decide); (case hid => exact Top.free T.new (Nat.le_refl _))) | (apply Og.s; constructor)) | (apply Ab.K.gk; first | (apply Xg.s; constructor) | (apply Ab.gY; case hw => assumption) | (apply Ab.gNT; case hw => assumption) | (apply Ab.gNF; case hw => assumption) | ((first | apply Ab.gD | apply Ab.gDN); all_goals (intro _ _; (first | contradiction | (exfalso; omega) | skip)))) | (apply Ab.K.awp; first | (apply Xg.s; constructor)) | (apply Ab.K.at_; exact at_) | (apply Ab.K.acall; first | assumption | first | exact c37 | exact c9) | (apply Ab.Rg.mk; omega) | (apply Ab.Lt.mk; first | decide | (simp; done) | (simp; omega) | omega) | (apply Ab.Get.mk; first | rfl | fail) | (apply Ab.Nm.mk; first | exact Eq.trans (congrArg (fun z => List.take _ (List.drop (z * 3) cs)) (Int.toNat_natCast i)) hE | exact nrm_) | (apply Xg.s; constructor) | (apply Ab.asm; assumption) | rfl | infer_instance | decide))
      (apply Ab.O.appendL (M + 2); (case hx => exact ev_); (case hL => first | exact LAt.nil | exact LAt.blk (by exact at_) (by first | rfl | simp [ecs_length])); (case hy => exact ev_); (case hs => first | exact Src.sl (by exact at_) (by decide) (by decide) rfl | exact srcAll (by exact at_) (by first | rfl | simp [ecs_length])); (case hk => rfl); (case hm => decide); (case hl => first | rfl | first | rfl | simp [ecs_length]); (case hz => decide); (case hb => omega); (case hfree => exact free_))
      intro s2 g
      have out : ∀ j, j < M → q ≠ j → s2 j = s1 j := fun j hj hne => by rw [g.off _ (fun e => hne (Option.some.inj e)) (by omega), AHeap.set_other _ _ (by omega), AHeap.set_other _ _ (by omega)]
      have T2 := g.topN T.new.new (fun q' e => by have := Option.some.inj e; omega)
      have F2 := g.fr (Fr.new (hT.free (by omega)) (Fr.new (hT.free (by omega)) F)) (fun q' e => .inl (hT.none (by have := Option.some.inj e; omega)))
      have gh := g.hit
      (repeat' (first | (apply Ab.K.ev; exact ev_) | (apply Ab.K.aops; first | (apply Xg.s; constructor) | (apply Ab.S.guardU; (case hd => rfl); (case hb => (exact ev_; done))) | apply Ab.S.guardG) | (apply Ab.K.aop; first | (apply Og.s; constructor)) | (apply Ab.K.gk; first | (apply Xg.s; constructor) | (apply Ab.gY; case hw => assumption) | (apply Ab.gNT; case hw => assumption) | (apply Ab.gNF; case hw => assumption) | ((first | apply Ab.gD | apply Ab.gDN); all_goals (intro _ _; (first | contradiction | (exfalso; omega) | skip)))) | (apply Ab.K.awp; first | (apply Xg.s; constructor)) | (apply Ab.K.at_; exact at_) | (apply Ab.K.acall; first | assumption | first | exact c37 | exact c9) | (apply Ab.Rg.mk; omega) | (apply Ab.Lt.mk; first | decide | (simp; done) | (simp; omega) | omega) | (apply Ab.Get.mk; first | rfl | fail) | (apply Ab.Nm.mk; first | exact Eq.trans (congrArg (fun z => List.take _ (List.drop (z * 3) cs)) (Int.toNat_natCast i)) hE | exact nrm_) | (apply Xg.s; constructor) | (apply Ab.asm; assumption) | rfl | infer_instance | decide))
      refine X.roundN (n - (i + 1)) (by omega) ⟨i + 1, M + 2, M + 3, r ++ [f], by exact ev_, by exact ev_, by exact ev_, by rw [List.length_append]; exact ev_, by exact ev_, by rw [ecs_append]; exact gh, hr2, F2, by omega, T2, by omega, rfl⟩
    · rw [hk] at c9
      have hr2 : r = (l.take (i + 1)).filter (fun e => !lkB (rm l e) a b) := by rw [htk, List.filter_append, ← hr]; simp [hk]
      (repeat' (first | (apply Ab.K.ev; exact ev_) | (apply Ab.K.aops; first | (apply Xg.s; constructor) | (apply Ab.S.guardU; (case hd => rfl); (case hb => (exact ev_; done))) | apply Ab.S.guardG) | (apply Ab.K.aop; first | (apply Og.s; constructor)) | (apply Ab.K.gk; first | (apply Xg.s; constructor) | (apply Ab.gY; case hw => assumption) | (apply Ab.gNT; case hw => assumption) | (apply Ab.gNF; case hw => assumption) | ((first | apply Ab.gD | apply Ab.gDN); all_goals (intro _ _; (first | contradiction | (exfalso; omega) | skip)))) | (apply Ab.K.awp; first | (apply Xg.s; constructor)) | (apply Ab.K.at_; exact at_) | (apply Ab.K.acall; first | assumption | first | exact c37 | exact c9) | (apply Ab.Rg.mk; omega) | (apply Ab.Lt.mk; first | decide | (simp; done) | (simp; omega) | omega) | (apply Ab.Get.mk; first | rfl | fail) | (apply Ab.Nm.mk; first | exact Eq.trans (congrArg (fun z => List.take _ (List.drop (z * 3) cs)) (Int.toNat_natCast i)) hE | exact nrm_) | (apply Xg.s; constructor) | (apply Ab.asm; assumption) | rfl | infer_instance | decide))
      exact X.roundN (n - (i + 1)) (by omega) ⟨i + 1, q, M + 1, r, by exact ev_, by exact ev_, by exact ev_, by exact ev_, by exact ev_, At.miss (by omega) a7, hr2, Fr.new (hT.free (by omega)) F, hq, T.new, by omega, rfl⟩
  · obtain rfl : i = n := by omega
    have hr2 : r = onL l a b := by rw [hr, hnl, List.take_length]; rfl
    rw [← hr2]
    (repeat' (first | (apply Ab.K.ev; exact ev_) | (apply Ab.K.aops; first | (apply Xg.s; constructor) | (apply Ab.S.guardU; (case hd => rfl); (case hb => (exact ev_; done))) | apply Ab.S.guardG) | (apply Ab.K.aop; first | (apply Og.s; constructor)) | (apply Ab.K.gk; first | (apply Xg.s; constructor) | (apply Ab.gY; case hw => assumption) | (apply Ab.gNT; case hw => assumption) | (apply Ab.gNF; case hw => assumption) | ((first | apply Ab.gD | apply Ab.gDN); all_goals (intro _ _; (first | contradiction | (exfalso; omega) | skip)))) | (apply Ab.K.awp; first | (apply Xg.s; constructor)) | (apply Ab.K.at_; exact at_) | (apply Ab.K.acall; first | assumption | first | exact c37 | exact c9) | (apply Ab.Rg.mk; omega) | (apply Ab.Lt.mk; first | decide | (simp; done) | (simp; omega) | omega) | (apply Ab.Get.mk; first | rfl | fail) | (apply Ab.Nm.mk; first | exact Eq.trans (congrArg (fun z => List.take _ (List.drop (z * 3) cs)) (Int.toNat_natCast i)) hE | exact nrm_) | (apply Xg.s; constructor) | (apply Ab.asm; assumption) | rfl | infer_instance | decide))
    apply RetQ.retR (renL (dn [(o, q, .cells true 3 (ecs r))]))
    (case he => exact evr_)
    (case hg => rfl)
    · simp [resV, mpR, mpB, mp1, mpA, renL_hit]
    · exact KeepsR.new1 ho (hT.none (by omega)) F a7 (ecs_pl _) rfl
    · simp


/-- The other end, as the document's way looks for it. -/
def oth (e : E) (n : Int) : Int := if e.b = n then e.a else if e.a = n then e.b else 0
/-- Where the document's way may go on. -/
def adm (e : E) (p : List Int) (j : Nat) (x : Int) : Prop := 0 < oth e x ∧ (j = 0 ∨ p[j - 1]? ≠ some (oth e x))
theorem oth_has {e : E} {x : Int} (h : 0 < oth e x) : e.has x (oth e x) := by
  unfold oth at *
  split
  · rename_i h1; exact .inr ⟨rfl, h1⟩
  · rename_i h1
    rw [if_neg h1] at h
    split
    · rename_i h2; exact .inl ⟨h2, rfl⟩
    · rename_i h2; rw [if_neg h2] at h; omega
theorem adm_next {p : List Int} (hnd : p.Nodup) {e : E} (ho : OnP p e) {j : Nat} {x : Int} (hx : p[j]? = some x) (ha : adm e p j x) : p[j + 1]? = some (oth e x) := by
  rcases ho.at hnd hx (oth_has ha.1) with h | ⟨h1, h2⟩
  · exact h
  · rcases ha.2 with h3 | h3
    · omega
    · exact absurd h2 h3
theorem adm_ex {l : List E} (hg : TP.Good l) {a b : Int} {p : List Int} (hw : TP.Way l a b p) {j : Nat} {x y : Int} (hx : p[j]? = some x) (hy : p[j + 1]? = some y) : ∃ e ∈ l, OnP p e ∧ adm e p j x := by
  obtain ⟨e, he, hh, ho⟩ := hw.edge hx hy
  have hm := hg.1 e he
  have h1 := hm.1.1; have h2 := hm.2.1.1; have h3 := hm.2.2.1
  have hoy : oth e x = y := by
    unfold oth
    rcases hh with ⟨h4, h5⟩ | ⟨h4, h5⟩
    · rw [if_neg (by omega), if_pos h4, h5]
    · rw [if_pos h5, h4]
  refine ⟨e, he, ho, by rw [hoy]; rcases hh with ⟨_, h5⟩ | ⟨h4, _⟩ <;> omega, ?_⟩
  by_cases hj : j = 0
  · exact .inl hj
  · refine .inr fun h => ?_
    rw [hoy] at h
    obtain ⟨a1, a2⟩ := List.getElem?_eq_some_iff.1 h
    obtain ⟨b1, b2⟩ := List.getElem?_eq_some_iff.1 hy
    have := (List.getElem_inj (h₀ := a1) (h₁ := b1) hw.nodup).1 (a2.trans b2.symm)
    omega
set_option maxRecDepth 4000 in
set_option maxHeartbeats 8000000 in
theorem way23 {s : AHeap} {A : Option Addr} {n c : Nat} {on : Option Nat} {l : List E} {a b : Int} {p : List Int} {o : Nat} (h : EA s (.slice A n c) on l) (hg : TP.Good l) (hc : Cut l) (hw : TP.Way l a b p) (ha : TP.Node a) (hb : TP.Node b) (hn : n ≤ 512) (ho : s o = none) :
    ACall Try.prog 23 [.slice A n c, .int .i64 a, .int .i64 b] s (.slice (some ⟨o, 0, none⟩) p.length p.length) (s.set o (.cells true 1 (ints p))) := by
  have hnl : n = l.length := by obtain ⟨_, _, e⟩ := h.isl; injection e
  have hp64 := hw.short (Good.node hg) ha
  refine ACall.make Try.func23 rfl (by kernel_rfl) (by decide) rfl (fun N hN => ?_)
  have hT : Top N s := hN
  have c25 := on25 (a := a) (b := b) (o := N) h (Good.node hg) hn (hT.none (Nat.le_refl _))
  obtain ⟨R, hR⟩ : ∃ R, R = onL l a b := ⟨_, rfl⟩
  rw [← hR] at c25
  have hRm : ∀ e, e ∈ R ↔ e ∈ l ∧ OnP p e := fun e => by
    rw [hR, onL_mem ha hb]
    exact ⟨fun h => ⟨h.1, (on_iff hc hw h.1).1 h.2⟩, fun h => ⟨h.1, (on_iff hc hw h.1).2 h.2⟩⟩
  have hRl : R.length ≤ 512 := by rw [hR]; exact Nat.le_trans (List.length_filter_le _ _) (by omega)
  have T0 : Top (N + 1) (s.set N (.cells true 3 (ecs R))) := hT.new
  have hp0 := hw.first
  have hpl : 1 ≤ p.length := by obtain ⟨t, rfl⟩ := hw.head; simp


  (repeat' (first | (apply Ab.K.ev; exact ev_) | (apply Ab.K.aops; first | (apply Xg.s; constructor) | (apply Ab.S.guardU; (case hd => rfl); (case hb => (exact ev_; done))) | apply Ab.S.guardG) | (apply Ab.K.aop; first | (apply Ab.O.build1 (N + 1); (case hx => exact ev_); (case hv => exact ⟨rfl, rfl⟩); (case hz => exact ⟨rfl, rfl⟩); (case hid => exact T0.free (Nat.le_refl _))) | (apply Og.s; constructor)) | (apply Ab.K.gk; first | (apply Xg.s; constructor) | (apply Ab.gY; case hw => assumption) | (apply Ab.gNT; case hw => assumption) | (apply Ab.gNF; case hw => assumption) | ((first | apply Ab.gD | apply Ab.gDN); all_goals (intro _ _; (first | contradiction | (exfalso; omega) | skip)))) | (apply Ab.K.awp; first | (apply Xg.s; constructor)) | (apply Ab.K.at_; exact at_) | (apply Ab.K.acall; first | assumption | exact c25) | (apply Ab.Rg.mk; omega) | (apply Ab.Lt.mk; first | decide | (simp; done) | (simp; omega) | omega) | (apply Ab.Get.mk; first | rfl | fail) | (apply Ab.Nm.mk; first | exact nrm_) | (apply Xg.s; constructor) | (apply Ab.asm; assumption) | rfl | infer_instance | decide))

  refine AWp.loop (fun kk tm s1 => ∃ (j q M : Nat), Ev tm (.tmp 2) (.int .i64 b) ∧ Ev tm (.tmp 7) (.slice (some ⟨N, 0, none⟩) R.length R.length) ∧ Ev tm (.tmp 8) (.slice (some ⟨q, 0, none⟩) (j + 1) (j + 1)) ∧ Ev tm (.tmp 9) (.int .i64 j) ∧ At s1 N (.cells true 3 (ecs R)) ∧ At s1 q (.cells true 1 (ints (p.take (j + 1)))) ∧ Fr s1 s [] ∧ N + 1 ≤ q ∧ Top M s1 ∧ j + 1 ≤ p.length ∧ kk = p.length - (j + 1)) (p.length - 1) ?_ ?_
  · refine ⟨0, N + 1, N + 2, by exact ev_, by exact ev_, by exact ev_, by exact ev_, by exact at_, ?_, by exact fr_, Nat.le_refl _, T0.new, hpl, rfl⟩
    rw [ints_take hp0]; exact At.hit
  rintro kk tm s1 ⟨j, q, M, e2, e7, e8, e9, a7, a8, F, hq, T, hj, hkk⟩
  have hqM := T.lt a8
  have hNM := T.lt a7
  obtain ⟨x, hx⟩ : ∃ x, p[j]? = some x := ⟨_, List.getElem?_eq_getElem (by omega)⟩
  have hcx : ∀ i y, i ≤ j → p[i]? = some y → (ints (p.take (j + 1)))[i]? = some (.int .i64 y) := fun i y hi hy => ints_get (by rw [List.getElem?_take, if_pos (by omega)]; exact hy)
  have hcl : (ints (p.take (j + 1))).length = j + 1 := by rw [ints_length, List.length_take]; omega
  have gx : (ints (p.take (j + 1)))[j]? = some (.int .i64 x) := hcx j x (Nat.le_refl _) hx
  by_cases hlast : j + 1 = p.length
  · have hxb : x = b := by
      have := hw.last
      rw [show p.length - 1 = j from by omega, hx] at this
      exact Option.some.inj this
    subst hxb
    rw [hlast, List.take_length] at a8
    rw [hlast] at e8
    have gx2 := gx
    rw [hlast, List.take_length] at gx2
    (repeat' (first | (apply Ab.K.ev; exact ev_) | (apply Ab.K.aops; first | (apply Xg.s; constructor) | (apply Ab.S.guardU; (case hd => rfl); (case hb => (exact ev_; done))) | apply Ab.S.guardG) | (apply Ab.K.aop; first | (apply Og.s; constructor)) | (apply Ab.K.gk; first | (apply Xg.s; constructor) | (apply Ab.gY; case hw => assumption) | (apply Ab.gNT; case hw => assumption) | (apply Ab.gNF; case hw => assumption) | ((first | apply Ab.gD | apply Ab.gDN); all_goals (intro _ _; (first | contradiction | (exfalso; omega) | skip)))) | (apply Ab.K.awp; first | (apply Xg.s; constructor)) | (apply Ab.K.at_; exact at_) | (apply Ab.K.acall; first | assumption | fail) | (apply Ab.Rg.mk; omega) | (apply Ab.Lt.mk; first | decide | (simp; done) | (simp; omega) | omega) | (apply Ab.Get.mk; first | rfl | first | (rw [show (((p.length : Nat) : Int) - 1).toNat = j from by omega]; exact gx2)) | (apply Ab.Nm.mk; first | exact nrm_) | (apply Xg.s; constructor) | (apply Ab.asm; assumption) | rfl | infer_instance | decide))
    apply RetQ.retR (renL (dn [(o, q, .cells true 1 (ints p))]))
    (case he => exact evr_)
    (case hg => rfl)
    · simp [resV, mpR, mpB, mp1, mpA, renL_hit]
    · exact KeepsR.new1 ho (hT.none (by omega)) F a8 (ints_pl _) rfl
    · simp
  · have hxb : x ≠ b := fun e => by
      obtain ⟨a1, a2⟩ := List.getElem?_eq_some_iff.1 hx
      obtain ⟨b1, b2⟩ := List.getElem?_eq_some_iff.1 hw.last
      have := (List.getElem_inj (h₀ := a1) (h₁ := b1) hw.nodup).1 (a2.trans (e.trans b2.symm))
      omega
    obtain ⟨y, hy⟩ : ∃ y, p[j + 1]? = some y := ⟨_, List.getElem?_eq_getElem (by omega)⟩
    obtain ⟨e', he', ho', ha'⟩ := adm_ex hg hw hx hy
    obtain ⟨i', hi', hie'⟩ := List.mem_iff_getElem.1 ((hRm e').2 ⟨he', ho'⟩)
    (repeat' (first | (apply Ab.K.ev; exact ev_) | (apply Ab.K.aops; first | (apply Xg.s; constructor) | (apply Ab.S.guardU; (case hd => rfl); (case hb => (exact ev_; done))) | apply Ab.S.guardG) | (apply Ab.K.aop; first | (apply Og.s; constructor)) | (apply Ab.K.gk; first | (apply Xg.s; constructor) | (apply Ab.gY; case hw => assumption) | (apply Ab.gNT; case hw => assumption) | (apply Ab.gNF; case hw => assumption) | ((first | apply Ab.gD | apply Ab.gDN); all_goals (intro _ _; (first | contradiction | (exfalso; omega) | skip)))) | (apply Ab.K.awp; first | (apply Xg.s; constructor)) | (apply Ab.K.at_; exact at_) | (apply Ab.K.acall; first | assumption | fail) | (apply Ab.Rg.mk; omega) | (apply Ab.Lt.mk; first | decide | (simp; done) | (simp; omega) | omega) | (apply Ab.Get.mk; first | rfl | first | (rw [show (((j + 1 : Nat) : Int) - 1).toNat = j from by omega]; exact gx)) | (apply Ab.Nm.mk; first | exact nrm_) | (apply Xg.s; constructor) | (apply Ab.asm; assumption) | rfl | infer_instance | decide))
    refine AWp.loop (fun k2 tm s2 => ∃ i : Nat, Ev tm (.tmp 2) (.int .i64 b) ∧ Ev tm (.tmp 7) (.slice (some ⟨N, 0, none⟩) R.length R.length) ∧ Ev tm (.tmp 8) (.slice (some ⟨q, 0, none⟩) (j + 1) (j + 1)) ∧ Ev tm (.tmp 9) (.int .i64 j) ∧ Ev tm (.tmp 10) (.int .i64 x) ∧ Ev tm (.tmp 11) (.int .i64 i) ∧ s2 = s1 ∧ i ≤ R.length ∧ (∀ k e, k < i → R[k]? = some e → ¬ adm e p j x) ∧ k2 = R.length - i) R.length ?_ ?_
    · exact ⟨0, by exact ev_, by exact ev_, by exact ev_, by exact ev_, by exact ev_, by exact ev_, rfl, by omega, fun k e hk => by omega, rfl⟩
    clear e2 e7 e8 e9
    rintro k2 tm s2 ⟨i, e2, e7, e8, e9, e10, e11, rfl, hi, hall, hk2⟩
    have hin : i < R.length := by
      rcases Nat.lt_or_ge i R.length with h | h
      · exact h
      · exact absurd ha' (hall i' e' (by omega) (by rw [List.getElem?_eq_getElem hi', hie']))
    obtain ⟨e, hee⟩ : ∃ e, R[i]? = some e := ⟨_, List.getElem?_eq_getElem hin⟩
    obtain ⟨hel, heo⟩ := (hRm e).1 (List.mem_of_getElem? hee)
    have hem := hg.1 e hel
    have m1 := hem.1.1; have m2 := hem.2.1.1; have m3 := hem.2.2.1
    have g0 : (ecs R)[i * 3]? = some (.int .i64 e.a) := ecs_cell hee 0 (by omega)
    have g1 : (ecs R)[i * 3 + 1]? = some (.int .i64 e.b) := ecs_cell hee 1 (by omega)
    have hsh : (e.b = x ∧ e.a ≠ x ∧ oth e x = e.a) ∨ (e.a = x ∧ e.b ≠ x ∧ oth e x = e.b) ∨ (e.a ≠ x ∧ e.b ≠ x ∧ oth e x = 0) := by
      unfold oth
      by_cases h1 : e.b = x
      · exact .inl ⟨h1, by omega, if_pos h1⟩
      · by_cases h2 : e.a = x
        · exact .inr (.inl ⟨h2, h1, by rw [if_neg h1, if_pos h2]⟩)
        · exact .inr (.inr ⟨h2, h1, by rw [if_neg h1, if_neg h2]⟩)
    have hzz : j = 0 ∨ ∃ z, p[j - 1]? = some z := by
      by_cases hj0 : j = 0
      · exact .inl hj0
      · exact .inr ⟨_, List.getElem?_eq_getElem (by omega)⟩



    by_cases had : adm e p j x
    · have hnx := adm_next hw.nodup heo hx had
      obtain ⟨had1, had2⟩ := had
      rcases hsh with ⟨s1, s2', s3'⟩ | ⟨s1, s2', s3'⟩ | ⟨_, _, s3'⟩
      · rw [s3'] at hnx had1 had2
        rcases hzz with hj0 | ⟨z, hz⟩
        · (repeat' (first | (apply Ab.K.ev; exact ev_) | (apply Ab.K.aops; first | (apply Xg.s; constructor) | (apply Ab.S.guardU; (case hd => rfl); (case hb => (exact ev_; done))) | apply Ab.S.guardG) | (apply Ab.K.aop; first | (apply Ab.O.build1 (M); (case hx => exact ev_); (case hv => exact ⟨rfl, rfl⟩); (case hz => exact ⟨rfl, rfl⟩); (case hid => exact free_)) | (apply Og.s; constructor)) | (apply Ab.K.gk; first | (apply Xg.s; constructor) | (apply Ab.gY; case hw => assumption) | (apply Ab.gNT; case hw => assumption) | (apply Ab.gNF; case hw => assumption) | ((first | apply Ab.gD | apply Ab.gDN); all_goals (intro _ _; (first | contradiction | (exfalso; omega) | skip)))) | (apply Ab.K.awp; first | (apply Xg.s; constructor)) | (apply Ab.K.at_; exact at_) | (apply Ab.K.acall; first | assumption | fail) | (apply Ab.Rg.mk; omega) | (apply Ab.Lt.mk; first | decide | (simp; done) | (simp; omega) | (rw [ecs_length]; omega)) | (apply Ab.Get.mk; first | rfl | first | (rw [Int.toNat_natCast]; first | exact g0 | exact g1) | (rw [show (((j + 1 : Nat) : Int) - 2).toNat = j - 1 from by omega]; exact gp)) | (apply Ab.Nm.mk; first | exact nrm_) | (apply Xg.s; constructor) | (apply Ab.asm; assumption) | rfl | infer_instance | decide))
          (apply Ab.O.appendL (M + 1); (case hx => exact ev_); (case hL => first | exact LAt.nil | exact LAt.blk (by exact at_) (by first | rfl | exact hcl | (rw [Nat.mul_one]; exact hcl) | simp [ints_length])); (case hy => exact ev_); (case hs => first | exact Src.sl (by exact at_) (by decide) (by decide) rfl | exact srcAll (by exact at_) (by first | rfl | exact hcl | (rw [Nat.mul_one]; exact hcl) | simp [ints_length])); (case hk => rfl); (case hm => decide); (case hl => first | rfl | first | rfl | exact hcl | (rw [Nat.mul_one]; exact hcl) | simp [ints_length]); (case hz => decide); (case hb => omega); (case hfree => exact free_))
          intro s3 g
          have out : ∀ k, k < M → q ≠ k → s3 k = s2 k := fun k hk hne => by rw [g.off _ (fun e => hne (Option.some.inj e)) (by omega), AHeap.set_other _ _ (by omega)]
          have T2 := g.topN T.new (fun q' e => by have := Option.some.inj e; omega)
          have F2 := g.fr (Fr.new (hT.free (by omega)) F) (fun q' e => .inl (hT.none (by have := Option.some.inj e; omega)))
          have a7' : At s3 N (.cells true 3 (ecs R)) := At.var (by rw [out _ hNM (by omega)]; exact a7.eq)
          have gh := g.hit
          rw [← ints_take hnx] at gh
          (repeat' (first | (apply Ab.K.ev; exact ev_) | (apply Ab.K.aops; first | (apply Xg.s; constructor) | (apply Ab.S.guardU; (case hd => rfl); (case hb => (exact ev_; done))) | apply Ab.S.guardG) | (apply Ab.K.aop; first | (apply Ab.O.build1 (M); (case hx => exact ev_); (case hv => exact ⟨rfl, rfl⟩); (case hz => exact ⟨rfl, rfl⟩); (case hid => exact free_)) | (apply Og.s; constructor)) | (apply Ab.K.gk; first | (apply Xg.s; constructor) | (apply Ab.gY; case hw => assumption) | (apply Ab.gNT; case hw => assumption) | (apply Ab.gNF; case hw => assumption) | ((first | apply Ab.gD | apply Ab.gDN); all_goals (intro _ _; (first | contradiction | (exfalso; omega) | skip)))) | (apply Ab.K.awp; first | (apply Xg.s; constructor)) | (apply Ab.K.at_; exact at_) | (apply Ab.K.acall; first | assumption | fail) | (apply Ab.Rg.mk; omega) | (apply Ab.Lt.mk; first | decide | (simp; done) | (simp; omega) | (rw [ecs_length]; omega)) | (apply Ab.Get.mk; first | rfl | first | (rw [Int.toNat_natCast]; first | exact g0 | exact g1) | (rw [show (((j + 1 : Nat) : Int) - 2).toNat = j - 1 from by omega]; exact gp)) | (apply Ab.Nm.mk; first | exact nrm_) | (apply Xg.s; constructor) | (apply Ab.asm; assumption) | rfl | infer_instance | decide))
          exact X.roundN (p.length - (j + 1 + 1)) (by omega) ⟨j + 1, M + 1, M + 2, by exact ev_, by exact ev_, by exact ev_, by exact ev_, a7', gh, F2, by omega, T2, by omega, rfl⟩
        · by_cases hj0 : j = 0
          · (repeat' (first | (apply Ab.K.ev; exact ev_) | (apply Ab.K.aops; first | (apply Xg.s; constructor) | (apply Ab.S.guardU; (case hd => rfl); (case hb => (exact ev_; done))) | apply Ab.S.guardG) | (apply Ab.K.aop; first | (apply Ab.O.build1 (M); (case hx => exact ev_); (case hv => exact ⟨rfl, rfl⟩); (case hz => exact ⟨rfl, rfl⟩); (case hid => exact free_)) | (apply Og.s; constructor)) | (apply Ab.K.gk; first | (apply Xg.s; constructor) | (apply Ab.gY; case hw => assumption) | (apply Ab.gNT; case hw => assumption) | (apply Ab.gNF; case hw => assumption) | ((first | apply Ab.gD | apply Ab.gDN); all_goals (intro _ _; (first | contradiction | (exfalso; omega) | skip)))) | (apply Ab.K.awp; first | (apply Xg.s; constructor)) | (apply Ab.K.at_; exact at_) | (apply Ab.K.acall; first | assumption | fail) | (apply Ab.Rg.mk; omega) | (apply Ab.Lt.mk; first | decide | (simp; done) | (simp; omega) | (rw [ecs_length]; omega)) | (apply Ab.Get.mk; first | rfl | first | (rw [Int.toNat_natCast]; first | exact g0 | exact g1) | (rw [show (((j + 1 : Nat) : Int) - 2).toNat = j - 1 from by omega]; exact gp)) | (apply Ab.Nm.mk; first | exact nrm_) | (apply Xg.s; constructor) | (apply Ab.asm; assumption) | rfl | infer_instance | decide))
            (apply Ab.O.appendL (M + 1); (case hx => exact ev_); (case hL => first | exact LAt.nil | exact LAt.blk (by exact at_) (by first | rfl | exact hcl | (rw [Nat.mul_one]; exact hcl) | simp [ints_length])); (case hy => exact ev_); (case hs => first | exact Src.sl (by exact at_) (by decide) (by decide) rfl | exact srcAll (by exact at_) (by first | rfl | exact hcl | (rw [Nat.mul_one]; exact hcl) | simp [ints_length])); (case hk => rfl); (case hm => decide); (case hl => first | rfl | first | rfl | exact hcl | (rw [Nat.mul_one]; exact hcl) | simp [ints_length]); (case hz => decide); (case hb => omega); (case hfree => exact free_))
            intro s3 g
            have out : ∀ k, k < M → q ≠ k → s3 k = s2 k := fun k hk hne => by rw [g.off _ (fun e => hne (Option.some.inj e)) (by omega), AHeap.set_other _ _ (by omega)]
            have T2 := g.topN T.new (fun q' e => by have := Option.some.inj e; omega)
            have F2 := g.fr (Fr.new (hT.free (by omega)) F) (fun q' e => .inl (hT.none (by have := Option.some.inj e; omega)))
            have a7' : At s3 N (.cells true 3 (ecs R)) := At.var (by rw [out _ hNM (by omega)]; exact a7.eq)
            have gh := g.hit
            rw [← ints_take hnx] at gh
            (repeat' (first | (apply Ab.K.ev; exact ev_) | (apply Ab.K.aops; first | (apply Xg.s; constructor) | (apply Ab.S.guardU; (case hd => rfl); (case hb => (exact ev_; done))) | apply Ab.S.guardG) | (apply Ab.K.aop; first | (apply Ab.O.build1 (M); (case hx => exact ev_); (case hv => exact ⟨rfl, rfl⟩); (case hz => exact ⟨rfl, rfl⟩); (case hid => exact free_)) | (apply Og.s; constructor)) | (apply Ab.K.gk; first | (apply Xg.s; constructor) | (apply Ab.gY; case hw => assumption) | (apply Ab.gNT; case hw => assumption) | (apply Ab.gNF; case hw => assumption) | ((first | apply Ab.gD | apply Ab.gDN); all_goals (intro _ _; (first | contradiction | (exfalso; omega) | skip)))) | (apply Ab.K.awp; first | (apply Xg.s; constructor)) | (apply Ab.K.at_; exact at_) | (apply Ab.K.acall; first | assumption | fail) | (apply Ab.Rg.mk; omega) | (apply Ab.Lt.mk; first | decide | (simp; done) | (simp; omega) | (rw [ecs_length]; omega)) | (apply Ab.Get.mk; first | rfl | first | (rw [Int.toNat_natCast]; first | exact g0 | exact g1) | (rw [show (((j + 1 : Nat) : Int) - 2).toNat = j - 1 from by omega]; exact gp)) | (apply Ab.Nm.mk; first | exact nrm_) | (apply Xg.s; constructor) | (apply Ab.asm; assumption) | rfl | infer_instance | decide))
            exact X.roundN (p.length - (j + 1 + 1)) (by omega) ⟨j + 1, M + 1, M + 2, by exact ev_, by exact ev_, by exact ev_, by exact ev_, a7', gh, F2, by omega, T2, by omega, rfl⟩
          · have gp := hcx (j - 1) z (by omega) hz
            have hzo : e.a ≠ z := fun h => had2.elim hj0 (fun h2 => h2 (by rw [hz, h]))
            (repeat' (first | (apply Ab.K.ev; exact ev_) | (apply Ab.K.aops; first | (apply Xg.s; constructor) | (apply Ab.S.guardU; (case hd => rfl); (case hb => (exact ev_; done))) | apply Ab.S.guardG) | (apply Ab.K.aop; first | (apply Ab.O.build1 (M); (case hx => exact ev_); (case hv => exact ⟨rfl, rfl⟩); (case hz => exact ⟨rfl, rfl⟩); (case hid => exact free_)) | (apply Og.s; constructor)) | (apply Ab.K.gk; first | (apply Xg.s; constructor) | (apply Ab.gY; case hw => assumption) | (apply Ab.gNT; case hw => assumption) | (apply Ab.gNF; case hw => assumption) | ((first | apply Ab.gD | apply Ab.gDN); all_goals (intro _ _; (first | contradiction | (exfalso; omega) | skip)))) | (apply Ab.K.awp; first | (apply Xg.s; constructor)) | (apply Ab.K.at_; exact at_) | (apply Ab.K.acall; first | assumption | fail) | (apply Ab.Rg.mk; omega) | (apply Ab.Lt.mk; first | decide | (simp; done) | (simp; omega) | (rw [ecs_length]; omega)) | (apply Ab.Get.mk; first | rfl | first | (rw [Int.toNat_natCast]; first | exact g0 | exact g1) | (rw [show (((j + 1 : Nat) : Int) - 2).toNat = j - 1 from by omega]; exact gp)) | (apply Ab.Nm.mk; first | exact nrm_) | (apply Xg.s; constructor) | (apply Ab.asm; assumption) | rfl | infer_instance | decide))
            (apply Ab.O.appendL (M + 1); (case hx => exact ev_); (case hL => first | exact LAt.nil | exact LAt.blk (by exact at_) (by first | rfl | exact hcl | (rw [Nat.mul_one]; exact hcl) | simp [ints_length])); (case hy => exact ev_); (case hs => first | exact Src.sl (by exact at_) (by decide) (by decide) rfl | exact srcAll (by exact at_) (by first | rfl | exact hcl | (rw [Nat.mul_one]; exact hcl) | simp [ints_length])); (case hk => rfl); (case hm => decide); (case hl => first | rfl | first | rfl | exact hcl | (rw [Nat.mul_one]; exact hcl) | simp [ints_length]); (case hz => decide); (case hb => omega); (case hfree => exact free_))
            intro s3 g
            have out : ∀ k, k < M → q ≠ k → s3 k = s2 k := fun k hk hne => by rw [g.off _ (fun e => hne (Option.some.inj e)) (by omega), AHeap.set_other _ _ (by omega)]
            have T2 := g.topN T.new (fun q' e => by have := Option.some.inj e; omega)
            have F2 := g.fr (Fr.new (hT.free (by omega)) F) (fun q' e => .inl (hT.none (by have := Option.some.inj e; omega)))
            have a7' : At s3 N (.cells true 3 (ecs R)) := At.var (by rw [out _ hNM (by omega)]; exact a7.eq)
            have gh := g.hit
            rw [← ints_take hnx] at gh
            (repeat' (first | (apply Ab.K.ev; exact ev_) | (apply Ab.K.aops; first | (apply Xg.s; constructor) | (apply Ab.S.guardU; (case hd => rfl); (case hb => (exact ev_; done))) | apply Ab.S.guardG) | (apply Ab.K.aop; first | (apply Ab.O.build1 (M); (case hx => exact ev_); (case hv => exact ⟨rfl, rfl⟩); (case hz => exact ⟨rfl, rfl⟩); (case hid => exact free_)) | (apply Og.s; constructor)) | (apply Ab.K.gk; first | (apply Xg.s; constructor) | (apply Ab.gY; case hw => assumption) | (apply Ab.gNT; case hw => assumption) | (apply Ab.gNF; case hw => assumption) | ((first | apply Ab.gD | apply Ab.gDN); all_goals (intro _ _; (first | contradiction | (exfalso; omega) | skip)))) | (apply Ab.K.awp; first | (apply Xg.s; constructor)) | (apply Ab.K.at_; exact at_) | (apply Ab.K.acall; first | assumption | fail) | (apply Ab.Rg.mk; omega) | (apply Ab.Lt.mk; first | decide | (simp; done) | (simp; omega) | (rw [ecs_length]; omega)) | (apply Ab.Get.mk; first | rfl | first | (rw [Int.toNat_natCast]; first | exact g0 | exact g1) | (rw [show (((j + 1 : Nat) : Int) - 2).toNat = j - 1 from by omega]; exact gp)) | (apply Ab.Nm.mk; first | exact nrm_) | (apply Xg.s; constructor) | (apply Ab.asm; assumption) | rfl | infer_instance | decide))
            exact X.roundN (p.length - (j + 1 + 1)) (by omega) ⟨j + 1, M + 1, M + 2, by exact ev_, by exact ev_, by exact ev_, by exact ev_, a7', gh, F2, by omega, T2, by omega, rfl⟩
      · rw [s3'] at hnx had1 had2
        rcases hzz with hj0 | ⟨z, hz⟩
        · (repeat' (first | (apply Ab.K.ev; exact ev_) | (apply Ab.K.aops; first | (apply Xg.s; constructor) | (apply Ab.S.guardU; (case hd => rfl); (case hb => (exact ev_; done))) | apply Ab.S.guardG) | (apply Ab.K.aop; first | (apply Ab.O.build1 (M); (case hx => exact ev_); (case hv => exact ⟨rfl, rfl⟩); (case hz => exact ⟨rfl, rfl⟩); (case hid => exact free_)) | (apply Og.s; constructor)) | (apply Ab.K.gk; first | (apply Xg.s; constructor) | (apply Ab.gY; case hw => assumption) | (apply Ab.gNT; case hw => assumption) | (apply Ab.gNF; case hw => assumption) | ((first | apply Ab.gD | apply Ab.gDN); all_goals (intro _ _; (first | contradiction | (exfalso; omega) | skip)))) | (apply Ab.K.awp; first | (apply Xg.s; constructor)) | (apply Ab.K.at_; exact at_) | (apply Ab.K.acall; first | assumption | fail) | (apply Ab.Rg.mk; omega) | (apply Ab.Lt.mk; first | decide | (simp; done) | (simp; omega) | (rw [ecs_length]; omega)) | (apply Ab.Get.mk; first | rfl | first | (rw [Int.toNat_natCast]; first | exact g0 | exact g1) | (rw [show (((j + 1 : Nat) : Int) - 2).toNat = j - 1 from by omega]; exact gp)) | (apply Ab.Nm.mk; first | exact nrm_) | (apply Xg.s; constructor) | (apply Ab.asm; assumption) | rfl | infer_instance | decide))
          (apply Ab.O.appendL (M + 1); (case hx => exact ev_); (case hL => first | exact LAt.nil | exact LAt.blk (by exact at_) (by first | rfl | exact hcl | (rw [Nat.mul_one]; exact hcl) | simp [ints_length])); (case hy => exact ev_); (case hs => first | exact Src.sl (by exact at_) (by decide) (by decide) rfl | exact srcAll (by exact at_) (by first | rfl | exact hcl | (rw [Nat.mul_one]; exact hcl) | simp [ints_length])); (case hk => rfl); (case hm => decide); (case hl => first | rfl | first | rfl | exact hcl | (rw [Nat.mul_one]; exact hcl) | simp [ints_length]); (case hz => decide); (case hb => omega); (case hfree => exact free_))
          intro s3 g
          have out : ∀ k, k < M → q ≠ k → s3 k = s2 k := fun k hk hne => by rw [g.off _ (fun e => hne (Option.some.inj e)) (by omega), AHeap.set_other _ _ (by omega)]
          have T2 := g.topN T.new (fun q' e => by have := Option.some.inj e; omega)
          have F2 := g.fr (Fr.new (hT.free (by omega)) F) (fun q' e => .inl (hT.none (by have := Option.some.inj e; omega)))
          have a7' : At s3 N (.cells true 3 (ecs R)) := At.var (by rw [out _ hNM (by omega)]; exact a7.eq)
          have gh := g.hit
          rw [← ints_take hnx] at gh
          (repeat' (first | (apply Ab.K.ev; exact ev_) | (apply Ab.K.aops; first | (apply Xg.s; constructor) | (apply Ab.S.guardU; (case hd => rfl); (case hb => (exact ev_; done))) | apply Ab.S.guardG) | (apply Ab.K.aop; first | (apply Ab.O.build1 (M); (case hx => exact ev_); (case hv => exact ⟨rfl, rfl⟩); (case hz => exact ⟨rfl, rfl⟩); (case hid => exact free_)) | (apply Og.s; constructor)) | (apply Ab.K.gk; first | (apply Xg.s; constructor) | (apply Ab.gY; case hw => assumption) | (apply Ab.gNT; case hw => assumption) | (apply Ab.gNF; case hw => assumption) | ((first | apply Ab.gD | apply Ab.gDN); all_goals (intro _ _; (first | contradiction | (exfalso; omega) | skip)))) | (apply Ab.K.awp; first | (apply Xg.s; constructor)) | (apply Ab.K.at_; exact at_) | (apply Ab.K.acall; first | assumption | fail) | (apply Ab.Rg.mk; omega) | (apply Ab.Lt.mk; first | decide | (simp; done) | (simp; omega) | (rw [ecs_length]; omega)) | (apply Ab.Get.mk; first | rfl | first | (rw [Int.toNat_natCast]; first | exact g0 | exact g1) | (rw [show (((j + 1 : Nat) : Int) - 2).toNat = j - 1 from by omega]; exact gp)) | (apply Ab.Nm.mk; first | exact nrm_) | (apply Xg.s; constructor) | (apply Ab.asm; assumption) | rfl | infer_instance | decide))
          exact X.roundN (p.length - (j + 1 + 1)) (by omega) ⟨j + 1, M + 1, M + 2, by exact ev_, by exact ev_, by exact ev_, by exact ev_, a7', gh, F2, by omega, T2, by omega, rfl⟩
        · by_cases hj0 : j = 0
          · (repeat' (first | (apply Ab.K.ev; exact ev_) | (apply Ab.K.aops; first | (apply Xg.s; constructor) | (apply Ab.S.guardU; (case hd => rfl); (case hb => (exact ev_; done))) | apply Ab.S.guardG) | (apply Ab.K.aop; first | (apply Ab.O.build1 (M); (case hx => exact ev_); (case hv => exact ⟨rfl, rfl⟩); (case hz => exact ⟨rfl, rfl⟩); (case hid => exact free_)) | (apply Og.s; constructor)) | (apply Ab.K.gk; first | (apply Xg.s; constructor) | (apply Ab.gY; case hw => assumption) | (apply Ab.gNT; case hw => assumption) | (apply Ab.gNF; case hw => assumption) | ((first | apply Ab.gD | apply Ab.gDN); all_goals (intro _ _; (first | contradiction | (exfalso; omega) | skip)))) | (apply Ab.K.awp; first | (apply Xg.s; constructor)) | (apply Ab.K.at_; exact at_) | (apply Ab.K.acall; first | assumption | fail) | (apply Ab.Rg.mk; omega) | (apply Ab.Lt.mk; first | decide | (simp; done) | (simp; omega) | (rw [ecs_length]; omega)) | (apply Ab.Get.mk; first | rfl | first | (rw [Int.toNat_natCast]; first | exact g0 | exact g1) | (rw [show (((j + 1 : Nat) : Int) - 2).toNat = j - 1 from by omega]; exact gp)) | (apply Ab.Nm.mk; first | exact nrm_) | (apply Xg.s; constructor) | (apply Ab.asm; assumption) | rfl | infer_instance | decide))
            (apply Ab.O.appendL (M + 1); (case hx => exact ev_); (case hL => first | exact LAt.nil | exact LAt.blk (by exact at_) (by first | rfl | exact hcl | (rw [Nat.mul_one]; exact hcl) | simp [ints_length])); (case hy => exact ev_); (case hs => first | exact Src.sl (by exact at_) (by decide) (by decide) rfl | exact srcAll (by exact at_) (by first | rfl | exact hcl | (rw [Nat.mul_one]; exact hcl) | simp [ints_length])); (case hk => rfl); (case hm => decide); (case hl => first | rfl | first | rfl | exact hcl | (rw [Nat.mul_one]; exact hcl) | simp [ints_length]); (case hz => decide); (case hb => omega); (case hfree => exact free_))
            intro s3 g
            have out : ∀ k, k < M → q ≠ k → s3 k = s2 k := fun k hk hne => by rw [g.off _ (fun e => hne (Option.some.inj e)) (by omega), AHeap.set_other _ _ (by omega)]
            have T2 := g.topN T.new (fun q' e => by have := Option.some.inj e; omega)
            have F2 := g.fr (Fr.new (hT.free (by omega)) F) (fun q' e => .inl (hT.none (by have := Option.some.inj e; omega)))
            have a7' : At s3 N (.cells true 3 (ecs R)) := At.var (by rw [out _ hNM (by omega)]; exact a7.eq)
            have gh := g.hit
            rw [← ints_take hnx] at gh
            (repeat' (first | (apply Ab.K.ev; exact ev_) | (apply Ab.K.aops; first | (apply Xg.s; constructor) | (apply Ab.S.guardU; (case hd => rfl); (case hb => (exact ev_; done))) | apply Ab.S.guardG) | (apply Ab.K.aop; first | (apply Ab.O.build1 (M); (case hx => exact ev_); (case hv => exact ⟨rfl, rfl⟩); (case hz => exact ⟨rfl, rfl⟩); (case hid => exact free_)) | (apply Og.s; constructor)) | (apply Ab.K.gk; first | (apply Xg.s; constructor) | (apply Ab.gY; case hw => assumption) | (apply Ab.gNT; case hw => assumption) | (apply Ab.gNF; case hw => assumption) | ((first | apply Ab.gD | apply Ab.gDN); all_goals (intro _ _; (first | contradiction | (exfalso; omega) | skip)))) | (apply Ab.K.awp; first | (apply Xg.s; constructor)) | (apply Ab.K.at_; exact at_) | (apply Ab.K.acall; first | assumption | fail) | (apply Ab.Rg.mk; omega) | (apply Ab.Lt.mk; first | decide | (simp; done) | (simp; omega) | (rw [ecs_length]; omega)) | (apply Ab.Get.mk; first | rfl | first | (rw [Int.toNat_natCast]; first | exact g0 | exact g1) | (rw [show (((j + 1 : Nat) : Int) - 2).toNat = j - 1 from by omega]; exact gp)) | (apply Ab.Nm.mk; first | exact nrm_) | (apply Xg.s; constructor) | (apply Ab.asm; assumption) | rfl | infer_instance | decide))
            exact X.roundN (p.length - (j + 1 + 1)) (by omega) ⟨j + 1, M + 1, M + 2, by exact ev_, by exact ev_, by exact ev_, by exact ev_, a7', gh, F2, by omega, T2, by omega, rfl⟩
          · have gp := hcx (j - 1) z (by omega) hz
            have hzo : e.b ≠ z := fun h => had2.elim hj0 (fun h2 => h2 (by rw [hz, h]))
            (repeat' (first | (apply Ab.K.ev; exact ev_) | (apply Ab.K.aops; first | (apply Xg.s; constructor) | (apply Ab.S.guardU; (case hd => rfl); (case hb => (exact ev_; done))) | apply Ab.S.guardG) | (apply Ab.K.aop; first | (apply Ab.O.build1 (M); (case hx => exact ev_); (case hv => exact ⟨rfl, rfl⟩); (case hz => exact ⟨rfl, rfl⟩); (case hid => exact free_)) | (apply Og.s; constructor)) | (apply Ab.K.gk; first | (apply Xg.s; constructor) | (apply Ab.gY; case hw => assumption) | (apply Ab.gNT; case hw => assumption) | (apply Ab.gNF; case hw => assumption) | ((first | apply Ab.gD | apply Ab.gDN); all_goals (intro _ _; (first | contradiction | (exfalso; omega) | skip)))) | (apply Ab.K.awp; first | (apply Xg.s; constructor)) | (apply Ab.K.at_; exact at_) | (apply Ab.K.acall; first | assumption | fail) | (apply Ab.Rg.mk; omega) | (apply Ab.Lt.mk; first | decide | (simp; done) | (simp; omega) | (rw [ecs_length]; omega)) | (apply Ab.Get.mk; first | rfl | first | (rw [Int.toNat_natCast]; first | exact g0 | exact g1) | (rw [show (((j + 1 : Nat) : Int) - 2).toNat = j - 1 from by omega]; exact gp)) | (apply Ab.Nm.mk; first | exact nrm_) | (apply Xg.s; constructor) | (apply Ab.asm; assumption) | rfl | infer_instance | decide))
            (apply Ab.O.appendL (M + 1); (case hx => exact ev_); (case hL => first | exact LAt.nil | exact LAt.blk (by exact at_) (by first | rfl | exact hcl | (rw [Nat.mul_one]; exact hcl) | simp [ints_length])); (case hy => exact ev_); (case hs => first | exact Src.sl (by exact at_) (by decide) (by decide) rfl | exact srcAll (by exact at_) (by first | rfl | exact hcl | (rw [Nat.mul_one]; exact hcl) | simp [ints_length])); (case hk => rfl); (case hm => decide); (case hl => first | rfl | first | rfl | exact hcl | (rw [Nat.mul_one]; exact hcl) | simp [ints_length]); (case hz => decide); (case hb => omega); (case hfree => exact free_))
            intro s3 g
            have out : ∀ k, k < M → q ≠ k → s3 k = s2 k := fun k hk hne => by rw [g.off _ (fun e => hne (Option.some.inj e)) (by omega), AHeap.set_other _ _ (by omega)]
            have T2 := g.topN T.new (fun q' e => by have := Option.some.inj e; omega)
            have F2 := g.fr (Fr.new (hT.free (by omega)) F) (fun q' e => .inl (hT.none (by have := Option.some.inj e; omega)))
            have a7' : At s3 N (.cells true 3 (ecs R)) := At.var (by rw [out _ hNM (by omega)]; exact a7.eq)
            have gh := g.hit
            rw [← ints_take hnx] at gh
            (repeat' (first | (apply Ab.K.ev; exact ev_) | (apply Ab.K.aops; first | (apply Xg.s; constructor) | (apply Ab.S.guardU; (case hd => rfl); (case hb => (exact ev_; done))) | apply Ab.S.guardG) | (apply Ab.K.aop; first | (apply Ab.O.build1 (M); (case hx => exact ev_); (case hv => exact ⟨rfl, rfl⟩); (case hz => exact ⟨rfl, rfl⟩); (case hid => exact free_)) | (apply Og.s; constructor)) | (apply Ab.K.gk; first | (apply Xg.s; constructor) | (apply Ab.gY; case hw => assumption) | (apply Ab.gNT; case hw => assumption) | (apply Ab.gNF; case hw => assumption) | ((first | apply Ab.gD | apply Ab.gDN); all_goals (intro _ _; (first | contradiction | (exfalso; omega) | skip)))) | (apply Ab.K.awp; first | (apply Xg.s; constructor)) | (apply Ab.K.at_; exact at_) | (apply Ab.K.acall; first | assumption | fail) | (apply Ab.Rg.mk; omega) | (apply Ab.Lt.mk; first | decide | (simp; done) | (simp; omega) | (rw [ecs_length]; omega)) | (apply Ab.Get.mk; first | rfl | first | (rw [Int.toNat_natCast]; first | exact g0 | exact g1) | (rw [show (((j + 1 : Nat) : Int) - 2).toNat = j - 1 from by omega]; exact gp)) | (apply Ab.Nm.mk; first | exact nrm_) | (apply Xg.s; constructor) | (apply Ab.asm; assumption) | rfl | infer_instance | decide))
            exact X.roundN (p.length - (j + 1 + 1)) (by omega) ⟨j + 1, M + 1, M + 2, by exact ev_, by exact ev_, by exact ev_, by exact ev_, a7', gh, F2, by omega, T2, by omega, rfl⟩
      · omega
    · have hall2 : ∀ k f, k < i + 1 → R[k]? = some f → ¬ adm f p j x := fun k f hk hf => by
        by_cases hki : k = i
        · subst hki; rw [hee] at hf; obtain rfl := Option.some.inj hf; exact had
        · exact hall k f (by omega) hf
      have had' : 0 < oth e x → j ≠ 0 ∧ p[j - 1]? = some (oth e x) := fun h => by
        by_cases hj0 : j = 0
        · exact absurd ⟨h, .inl hj0⟩ had
        · refine ⟨hj0, ?_⟩
          by_cases hh : p[j - 1]? = some (oth e x)
          · exact hh
          · exact absurd ⟨h, .inr hh⟩ had
      rcases hsh with ⟨s1, s2', s3'⟩ | ⟨s1, s2', s3'⟩ | ⟨s1, s2', s3'⟩
      · rw [s3'] at had'
        obtain ⟨hj0, hz⟩ := had' (by omega)
        have gp := hcx (j - 1) _ (by omega) hz
        (repeat' (first | (apply Ab.K.ev; exact ev_) | (apply Ab.K.aops; first | (apply Xg.s; constructor) | (apply Ab.S.guardU; (case hd => rfl); (case hb => (exact ev_; done))) | apply Ab.S.guardG) | (apply Ab.K.aop; first | (apply Ab.O.build1 (M); (case hx => exact ev_); (case hv => exact ⟨rfl, rfl⟩); (case hz => exact ⟨rfl, rfl⟩); (case hid => exact free_)) | (apply Og.s; constructor)) | (apply Ab.K.gk; first | (apply Xg.s; constructor) | (apply Ab.gY; case hw => assumption) | (apply Ab.gNT; case hw => assumption) | (apply Ab.gNF; case hw => assumption) | ((first | apply Ab.gD | apply Ab.gDN); all_goals (intro _ _; (first | contradiction | (exfalso; omega) | skip)))) | (apply Ab.K.awp; first | (apply Xg.s; constructor)) | (apply Ab.K.at_; exact at_) | (apply Ab.K.acall; first | assumption | fail) | (apply Ab.Rg.mk; omega) | (apply Ab.Lt.mk; first | decide | (simp; done) | (simp; omega) | (rw [ecs_length]; omega)) | (apply Ab.Get.mk; first | rfl | first | (rw [Int.toNat_natCast]; first | exact g0 | exact g1) | (rw [show (((j + 1 : Nat) : Int) - 2).toNat = j - 1 from by omega]; exact gp)) | (apply Ab.Nm.mk; first | exact nrm_) | (apply Xg.s; constructor) | (apply Ab.asm; assumption) | rfl | infer_instance | decide))
        exact X.roundN (R.length - (i + 1)) (by omega) ⟨i + 1, by exact ev_, by exact ev_, by exact ev_, by exact ev_, by exact ev_, by exact ev_, rfl, by omega, hall2, rfl⟩
      · rw [s3'] at had'
        obtain ⟨hj0, hz⟩ := had' (by omega)
        have gp := hcx (j - 1) _ (by omega) hz
        (repeat' (first | (apply Ab.K.ev; exact ev_) | (apply Ab.K.aops; first | (apply Xg.s; constructor) | (apply Ab.S.guardU; (case hd => rfl); (case hb => (exact ev_; done))) | apply Ab.S.guardG) | (apply Ab.K.aop; first | (apply Ab.O.build1 (M); (case hx => exact ev_); (case hv => exact ⟨rfl, rfl⟩); (case hz => exact ⟨rfl, rfl⟩); (case hid => exact free_)) | (apply Og.s; constructor)) | (apply Ab.K.gk; first | (apply Xg.s; constructor) | (apply Ab.gY; case hw => assumption) | (apply Ab.gNT; case hw => assumption) | (apply Ab.gNF; case hw => assumption) | ((first | apply Ab.gD | apply Ab.gDN); all_goals (intro _ _; (first | contradiction | (exfalso; omega) | skip)))) | (apply Ab.K.awp; first | (apply Xg.s; constructor)) | (apply Ab.K.at_; exact at_) | (apply Ab.K.acall; first | assumption | fail) | (apply Ab.Rg.mk; omega) | (apply Ab.Lt.mk; first | decide | (simp; done) | (simp; omega) | (rw [ecs_length]; omega)) | (apply Ab.Get.mk; first | rfl | first | (rw [Int.toNat_natCast]; first | exact g0 | exact g1) | (rw [show (((j + 1 : Nat) : Int) - 2).toNat = j - 1 from by omega]; exact gp)) | (apply Ab.Nm.mk; first | exact nrm_) | (apply Xg.s; constructor) | (apply Ab.asm; assumption) | rfl | infer_instance | decide))
        exact X.roundN (R.length - (i + 1)) (by omega) ⟨i + 1, by exact ev_, by exact ev_, by exact ev_, by exact ev_, by exact ev_, by exact ev_, rfl, by omega, hall2, rfl⟩
      · (repeat' (first | (apply Ab.K.ev; exact ev_) | (apply Ab.K.aops; first | (apply Xg.s; constructor) | (apply Ab.S.guardU; (case hd => rfl); (case hb => (exact ev_; done))) | apply Ab.S.guardG) | (apply Ab.K.aop; first | (apply Ab.O.build1 (M); (case hx => exact ev_); (case hv => exact ⟨rfl, rfl⟩); (case hz => exact ⟨rfl, rfl⟩); (case hid => exact free_)) | (apply Og.s; constructor)) | (apply Ab.K.gk; first | (apply Xg.s; constructor) | (apply Ab.gY; case hw => assumption) | (apply Ab.gNT; case hw => assumption) | (apply Ab.gNF; case hw => assumption) | ((first | apply Ab.gD | apply Ab.gDN); all_goals (intro _ _; (first | contradiction | (exfalso; omega) | skip)))) | (apply Ab.K.awp; first | (apply Xg.s; constructor)) | (apply Ab.K.at_; exact at_) | (apply Ab.K.acall; first | assumption | fail) | (apply Ab.Rg.mk; omega) | (apply Ab.Lt.mk; first | decide | (simp; done) | (simp; omega) | (rw [ecs_length]; omega)) | (apply Ab.Get.mk; first | rfl | first | (rw [Int.toNat_natCast]; first | exact g0 | exact g1) | (rw [show (((j + 1 : Nat) : Int) - 2).toNat = j - 1 from by omega]; exact gp)) | (apply Ab.Nm.mk; first | exact nrm_) | (apply Xg.s; constructor) | (apply Ab.asm; assumption) | rfl | infer_instance | decide))
        exact X.roundN (R.length - (i + 1)) (by omega) ⟨i + 1, by exact ev_, by exact ev_, by exact ev_, by exact ev_, by exact ev_, by exact ev_, rfl, by omega, hall2, rfl⟩
end Go.Proofs.Ytdbnpghckgmaoaa

/- trees: which edges may be together, the program's check with a map. -/
namespace Go.Proofs.Ytdbnpghckgmaoaa
set_option linter.unusedVariables false
set_option linter.unusedSimpArgs false
set_option linter.unusedSectionVars false
open Go.RowKit Ab TP
attribute [local irreducible] AOps AOpsD AOp AWp put nargs AHeap.set At Free ACall thenQ blockQ roundQ RetQ Src bsn
theorem chk32 (m : Nat) (em : Bool) (w : World) (e : E) : (Instr.checkKey em (m + 1 + 1) 43 (.agg (ec e).toArray)).run Try.prog w = .ok () w := by
  have u3 := Try.underlying3
  have a3 := Try.isAgg3
  have z3 := Try.sizeOf3
  have ck : ∀ (a : Int) (w : World), (Instr.checkKey em (m + 1) 3 (.int .i64 a)).run Try.prog w = .ok () w := fun a w => Go.MapKept.run_checkKey u3 (by simp [Go.MapKept.IsKey]) em m
  rw [Instr.checkKey]
  simp only [Sem.run_bind, run_underlying Try.underlying43, Result.andThen_ok]
  unfold ec
  go_simp
theorem bits32 (m : Nat) (e : E) : Instr.sameBits (m + 1 + 1) (.agg (ec e).toArray) (.agg (ec e).toArray) = true := by
  rw [Instr.sameBits]
  unfold ec
  simp [Instr.sameBits]
/-- Keys: edges. -/
theorem key32 : KeyT Try.prog 43 (fun v => ∃ e : E, v = .agg (ec e).toArray) := by
  refine keyT_struct (fs := Try.prog.fieldsOf 43) (by kernel_rfl) (fun v ⟨e, h⟩ => by rw [h]; rfl) (fun v ⟨e, h⟩ => ⟨_, h⟩) (fun v em w ⟨e, h⟩ => ?_) (fun v ⟨e, h⟩ => ?_) (fun a b w ⟨e, h⟩ ⟨f, k⟩ => ?_)
  · subst h; exact chk32 9998 em w e
  · subst h; exact bits32 9998 e
  · subst h; subst k
    have u3 := Try.underlying3
    have a3 := Try.isAgg3
    have z3 := Try.sizeOf3
    have hS : Try.prog.underlying 43 = some (.struct (Try.prog.fieldsOf 43)) := by kernel_rfl
    have hp : Try.prog.stoodInHeld 43 = false := by kernel_rfl
    refine ⟨decide (e = f), ?_, ?_⟩
    · unfold Op.equal Op.maxDepth
      rw [show (10000 : Nat) = 9999 + 1 from rfl, run_equalIn_agg w 9999 43 _ _ hS hp]
      simp only [Program.fieldsOf, Try.underlying43]
      obtain ⟨a, b, c⟩ := e
      obtain ⟨a', b', c'⟩ := f
      unfold ec
      go_simp
      by_cases h1 : a = a' <;> by_cases h2 : b = b' <;> by_cases h3 : c = c' <;> simp [h1, h2, h3]
    · rw [decide_eq_true_iff]
      constructor
      · rintro rfl; rfl
      · intro h
        obtain ⟨a, b, c⟩ := e
        obtain ⟨a', b', c'⟩ := f
        simpa [ec] using h
theorem mfind_ex (k : Value) : ∀ (es : List (Value × Value)) (i : Nat), ∃ r, MFind k es i r ∧ ((r = none ∧ ∀ e ∈ es, e.1 ≠ k) ∨ ∃ j v, r = some (j, v) ∧ (k, v) ∈ es)
  | [], i => ⟨none, rfl, .inl ⟨rfl, fun e h => by cases h⟩⟩
  | e :: es, i => by
    by_cases h : e.1 = k
    · exact ⟨_, .inl ⟨h, rfl⟩, .inr ⟨i, e.2, rfl, by rw [← h]; exact List.mem_cons_self⟩⟩
    · obtain ⟨r, h1, h2⟩ := mfind_ex k es (i + 1)
      refine ⟨r, .inr ⟨h, h1⟩, ?_⟩
      rcases h2 with ⟨h3, h4⟩ | ⟨j, v, h3, h4⟩
      · exact .inl ⟨h3, fun x hx => (List.mem_cons.1 hx).elim (fun e' => by rw [e']; exact h) (h4 x)⟩
      · exact .inr ⟨j, v, h3, List.mem_cons_of_mem _ h4⟩
def mk (e : E) : Value := .agg (ec ⟨e.a, e.b, 0⟩).toArray
def mes (l : List E) : List (Value × Value) := l.map fun e => (mk e, .bool true)
theorem mes_append (a b : List E) : mes (a ++ b) = mes a ++ mes b := by simp [mes]
theorem mes_key {l : List E} : ∀ e ∈ mes l, ∃ f : E, e.1 = .agg (ec f).toArray := fun e h => by
  obtain ⟨g, _, rfl⟩ := List.mem_map.1 h
  exact ⟨_, rfl⟩
theorem mk_eq {e f : E} : mk e = mk f ↔ e.a = f.a ∧ e.b = f.b := by simp [mk, ec]
theorem mes_find {l : List E} {e : E} : (¬ (∃ g ∈ l, g.a = e.a ∧ g.b = e.b) ∧ MFind (mk e) (mes l) 0 none) ∨ ((∃ g ∈ l, g.a = e.a ∧ g.b = e.b) ∧ ∃ j, MFind (mk e) (mes l) 0 (some (j, .bool true))) := by
  obtain ⟨r, h1, h2⟩ := mfind_ex (mk e) (mes l) 0
  rcases h2 with ⟨rfl, h3⟩ | ⟨j, v, rfl, h3⟩
  · refine .inl ⟨fun ⟨g, hg, h⟩ => h3 (mk g, .bool true) (List.mem_map.2 ⟨g, hg, rfl⟩) (mk_eq.2 h), h1⟩
  · obtain ⟨g, hg, h⟩ := List.mem_map.1 h3
    injection h with h4 h5
    subst h5
    exact .inr ⟨⟨g, hg, mk_eq.1 h4⟩, j, h1⟩
theorem checkAll44 {s : AHeap} {A : Option Addr} {n c : Nat} {on : Option Nat} {l : List E} (h : EA s (.slice A n c) on l) (hn : n ≤ 512) :
    ACall Try.prog 46 [.slice A n c] s (.int .i64 (ckE l)) s := by
  have hnl : n = l.length := by obtain ⟨_, _, e⟩ := h.isl; injection e
  refine ACall.make Try.func46 rfl (by kernel_rfl) (by decide) rfl (fun N hN => ?_)
  have hT : Top N s := hN
  (repeat' (first | (apply Ab.K.ev; exact ev_) | (apply Ab.K.aops; first | (apply Xg.s; constructor) | (apply Ab.S.guardU; (case hd => rfl); (case hb => (exact ev_; done))) | apply Ab.S.guardG) | (apply Ab.K.aop; first | (apply Ab.O.makeMap N; (case hid => exact hT.free (Nat.le_refl _))) | (apply Og.s; constructor)) | (apply Ab.K.gk; first | (apply Xg.s; constructor) | (apply Ab.gY; case hw => assumption) | (apply Ab.gNT; case hw => assumption) | (apply Ab.gNF; case hw => assumption) | ((first | apply Ab.gD | apply Ab.gDN); all_goals (intro _ _; (first | contradiction | (exfalso; omega) | skip)))) | (apply Ab.K.awp; first | (apply Xg.s; constructor)) | (apply Ab.K.at_; exact at_) | (apply Ab.K.acall; first | assumption | fail) | (apply Ab.Rg.mk; omega) | (apply Ab.Lt.mk; first | decide | (simp; done) | (simp; omega) | fail) | (apply Ab.Get.mk; first | rfl | fail) | (apply Ab.Nm.mk; first | exact nrm_) | (apply Xg.s; constructor) | (apply Ab.asm; assumption) | rfl | infer_instance | decide))
  refine AWp.loop (fun kk tm s1 => ∃ (i M : Nat), Ev tm (.tmp 0) (.slice A n c) ∧ Ev tm (.tmp 3) (.map (some N)) ∧ Ev tm (.tmp 8) (.slice A n c) ∧ Ev tm (.tmp 9) (.int .i64 n) ∧ Ev tm (.tmp 10) (.int .i64 i) ∧ At s1 N (.map (mes (l.take i))) ∧ Fr s1 s [] ∧ Top M s1 ∧ (∀ e ∈ l.take i, e.may) ∧ Apart (l.take i) ∧ i ≤ n ∧ kk = n - i) n ?_ ?_
  · exact ⟨0, N + 1, by exact ev_, by exact ev_, by exact ev_, by exact ev_, by exact ev_, At.hit, by exact fr_, hT.new, (fun e he => by cases he), List.Pairwise.nil, by omega, rfl⟩
  rintro kk tm s1 ⟨i, M, e0, e3, e8, e9, e10, a3, F, T, hmay, hap, hi, hkk⟩
  have hNM := T.lt a3
  by_cases hin : i < n
  · have hi' : l[i]? = some (l[i]'(by omega)) := List.getElem?_eq_getElem (by omega)
    obtain ⟨e, hee⟩ : ∃ e, e = l[i]'(by omega) := ⟨_, rfl⟩
    rw [← hee] at hi'
    have htk : l.take (i + 1) = l.take i ++ [e] := by rw [List.take_add_one, hi']; rfl
    obtain ⟨q, rw1, cs, rfl, hon, _, hq, _, hE, _⟩ := (h.fr F).elt hi'
    have hqN := h.lt hT q hon
    have c51 : ∀ s : AHeap, ACall Try.prog 58 [.agg (ec e).toArray] s (.int .i64 (mayE e)) s := fun s => check51



    by_cases hm : e.may
    · rw [may_y hm] at c51
      rcases mes_find (l := l.take i) (e := e) with ⟨hno, hf⟩ | ⟨hyes, j, hf⟩
      · have hap2 : Apart (l.take (i + 1)) := by rw [htk, apart_snoc]; exact ⟨hap, hno⟩
        have hmay2 : ∀ f ∈ l.take (i + 1), f.may := fun f hf2 => by
          rw [htk] at hf2
          exact (List.mem_append.1 hf2).elim (hmay f) (fun h => by rw [List.mem_singleton.1 h]; exact hm)
        (repeat' (first | (apply Ab.K.ev; exact ev_) | (apply Ab.K.aops; first | (apply Xg.s; constructor) | (apply Ab.S.guardU; (case hd => rfl); (case hb => (exact ev_; done))) | apply Ab.S.guardG) | (apply Ab.K.aop; first | (first | (first | (apply Ab.O.allocA (l := ec ⟨0, 0, 0⟩) M; (case hid => exact T.free (Nat.le_refl _)); (case hp => rfl)) | (apply Ab.O.allocA (l := ec ⟨0, 0, 0⟩) (M + 1); (case hid => exact free_); (case hp => rfl)) | (apply Ab.O.storeAll; (case hz => rfl); (case hx => exact ev_); (case hy => exact ev_); (case hs => exact at_); (case hl => rfl); (case hc => rfl))) | (apply Ab.O.lookup (D := fun v => ∃ e : E, v = .agg (ec e).toArray) (k := mk e) (r := none); (case hx => exact ev_); (case hi => exact ev_); (case hs => exact at_); (case hz => rfl); (case hK => exact key32); (case hd => exact ⟨_, rfl⟩); (case he => exact mes_key); (case hf => exact hf)) | (apply Ab.O.mapUpdate (D := fun v => ∃ e : E, v = .agg (ec e).toArray) (k := mk e) (r := none); (case hm => exact ev_); (case hi => exact ev_); (case hx => exact ev_); (case hs => exact at_); (case hK => exact key32); (case hd => exact ⟨_, rfl⟩); (case he => exact mes_key); (case hf => exact hf); (case hn => rfl))) | (apply Og.s; constructor)) | (apply Ab.K.gk; first | (apply Xg.s; constructor) | (apply Ab.gY; case hw => assumption) | (apply Ab.gNT; case hw => assumption) | (apply Ab.gNF; case hw => assumption) | ((first | apply Ab.gD | apply Ab.gDN); all_goals (intro _ _; (first | contradiction | (exfalso; omega) | skip)))) | (apply Ab.K.awp; first | (apply Xg.s; constructor)) | (apply Ab.K.at_; exact at_) | (apply Ab.K.acall; first | assumption | exact c51 _) | (apply Ab.Rg.mk; omega) | (apply Ab.Lt.mk; first | decide | (simp; done) | (simp; omega) | first | omega | (show (0 + 3 : Nat) < 3 + 1; decide) | (show (_ : Nat) < 3; decide)) | (apply Ab.Get.mk; first | rfl | fail) | (apply Ab.Nm.mk; first | first | exact Eq.trans (congrArg (fun z => List.take _ (List.drop (z * 3) cs)) (Int.toNat_natCast i)) hE | exact (show ((ec e).drop 0).take 3 = ec e from rfl) | exact (show ((ec ⟨e.a, e.b, 0⟩).drop 0).take 3 = ec ⟨e.a, e.b, 0⟩ from rfl) | exact nrm_) | (apply Xg.s; constructor) | (apply Ab.asm; assumption) | rfl | infer_instance | decide))
        refine X.roundN (n - (i + 1)) (by omega) ⟨i + 1, M + 2, by exact ev_, by exact ev_, by exact ev_, by exact ev_, by exact ev_, by rw [htk, mes_append]; exact At.hit, ?_, ?_, hmay2, hap2, by omega, rfl⟩
        · exact Fr.new (hT.free (Nat.le_refl _)) (by exact fr_)
        · exact Top.set (by exact top_) (by omega)
      · rw [ck_n fun g => (apart_snoc.1 (htk ▸ (g.2.sublist (List.take_sublist (i + 1) l)))).2 hyes]
        (repeat' (first | (apply Ab.K.ev; exact ev_) | (apply Ab.K.aops; first | (apply Xg.s; constructor) | (apply Ab.S.guardU; (case hd => rfl); (case hb => (exact ev_; done))) | apply Ab.S.guardG) | (apply Ab.K.aop; first | (first | (first | (apply Ab.O.allocA (l := ec ⟨0, 0, 0⟩) M; (case hid => exact T.free (Nat.le_refl _)); (case hp => rfl)) | (apply Ab.O.allocA (l := ec ⟨0, 0, 0⟩) (M + 1); (case hid => exact free_); (case hp => rfl)) | (apply Ab.O.storeAll; (case hz => rfl); (case hx => exact ev_); (case hy => exact ev_); (case hs => exact at_); (case hl => rfl); (case hc => rfl))) | (apply Ab.O.lookup (D := fun v => ∃ e : E, v = .agg (ec e).toArray) (k := mk e) (r := some (j, .bool true)); (case hx => exact ev_); (case hi => exact ev_); (case hs => exact at_); (case hz => rfl); (case hK => exact key32); (case hd => exact ⟨_, rfl⟩); (case he => exact mes_key); (case hf => exact hf))) | (apply Og.s; constructor)) | (apply Ab.K.gk; first | (apply Xg.s; constructor) | (apply Ab.gY; case hw => assumption) | (apply Ab.gNT; case hw => assumption) | (apply Ab.gNF; case hw => assumption) | ((first | apply Ab.gD | apply Ab.gDN); all_goals (intro _ _; (first | contradiction | (exfalso; omega) | skip)))) | (apply Ab.K.awp; first | (apply Xg.s; constructor)) | (apply Ab.K.at_; exact at_) | (apply Ab.K.acall; first | assumption | exact c51 _) | (apply Ab.Rg.mk; omega) | (apply Ab.Lt.mk; first | decide | (simp; done) | (simp; omega) | first | omega | (show (0 + 3 : Nat) < 3 + 1; decide) | (show (_ : Nat) < 3; decide)) | (apply Ab.Get.mk; first | rfl | fail) | (apply Ab.Nm.mk; first | first | exact Eq.trans (congrArg (fun z => List.take _ (List.drop (z * 3) cs)) (Int.toNat_natCast i)) hE | exact (show ((ec e).drop 0).take 3 = ec e from rfl) | exact (show ((ec ⟨e.a, e.b, 0⟩).drop 0).take 3 = ec ⟨e.a, e.b, 0⟩ from rfl) | exact nrm_) | (apply Xg.s; constructor) | (apply Ab.asm; assumption) | rfl | infer_instance | decide))
        all_goals ((first | apply RetQ.ret | apply RetQ.normal); (case he => exact evr_); (case hg => rfl))
        all_goals first | rfl | (apply Keeps.fr; (case h => exact fr_); (case hv => exact plR.nm rfl))
    · rw [may_n hm] at c51
      rw [ck_n fun g => hm (g.1 e (List.mem_of_getElem? hi'))]
      (repeat' (first | (apply Ab.K.ev; exact ev_) | (apply Ab.K.aops; first | (apply Xg.s; constructor) | (apply Ab.S.guardU; (case hd => rfl); (case hb => (exact ev_; done))) | apply Ab.S.guardG) | (apply Ab.K.aop; first | (first | (apply Ab.O.allocA (l := ec ⟨0, 0, 0⟩) M; (case hid => exact T.free (Nat.le_refl _)); (case hp => rfl)) | (apply Ab.O.allocA (l := ec ⟨0, 0, 0⟩) (M + 1); (case hid => exact free_); (case hp => rfl)) | (apply Ab.O.storeAll; (case hz => rfl); (case hx => exact ev_); (case hy => exact ev_); (case hs => exact at_); (case hl => rfl); (case hc => rfl))) | (apply Og.s; constructor)) | (apply Ab.K.gk; first | (apply Xg.s; constructor) | (apply Ab.gY; case hw => assumption) | (apply Ab.gNT; case hw => assumption) | (apply Ab.gNF; case hw => assumption) | ((first | apply Ab.gD | apply Ab.gDN); all_goals (intro _ _; (first | contradiction | (exfalso; omega) | skip)))) | (apply Ab.K.awp; first | (apply Xg.s; constructor)) | (apply Ab.K.at_; exact at_) | (apply Ab.K.acall; first | assumption | exact c51 _) | (apply Ab.Rg.mk; omega) | (apply Ab.Lt.mk; first | decide | (simp; done) | (simp; omega) | first | omega | (show (0 + 3 : Nat) < 3 + 1; decide) | (show (_ : Nat) < 3; decide)) | (apply Ab.Get.mk; first | rfl | fail) | (apply Ab.Nm.mk; first | first | exact Eq.trans (congrArg (fun z => List.take _ (List.drop (z * 3) cs)) (Int.toNat_natCast i)) hE | exact (show ((ec e).drop 0).take 3 = ec e from rfl) | exact (show ((ec ⟨e.a, e.b, 0⟩).drop 0).take 3 = ec ⟨e.a, e.b, 0⟩ from rfl) | exact nrm_) | (apply Xg.s; constructor) | (apply Ab.asm; assumption) | rfl | infer_instance | decide))
      all_goals ((first | apply RetQ.ret | apply RetQ.normal); (case he => exact evr_); (case hg => rfl))
      all_goals first | rfl | (apply Keeps.fr; (case h => exact fr_); (case hv => exact plR.nm rfl))
  · obtain rfl : i = n := by omega
    rw [hnl, List.take_length] at hap hmay
    rw [ck_y ⟨hmay, hap⟩]
    (repeat' (first | (apply Ab.K.ev; exact ev_) | (apply Ab.K.aops; first | (apply Xg.s; constructor) | (apply Ab.S.guardU; (case hd => rfl); (case hb => (exact ev_; done))) | apply Ab.S.guardG) | (apply Ab.K.aop; first | (apply Og.s; constructor)) | (apply Ab.K.gk; first | (apply Xg.s; constructor) | (apply Ab.gY; case hw => assumption) | (apply Ab.gNT; case hw => assumption) | (apply Ab.gNF; case hw => assumption) | ((first | apply Ab.gD | apply Ab.gDN); all_goals (intro _ _; (first | contradiction | (exfalso; omega) | skip)))) | (apply Ab.K.awp; first | (apply Xg.s; constructor)) | (apply Ab.K.at_; exact at_) | (apply Ab.K.acall; first | assumption | exact c51 _) | (apply Ab.Rg.mk; omega) | (apply Ab.Lt.mk; first | decide | (simp; done) | (simp; omega) | first | omega | (show (0 + 3 : Nat) < 3 + 1; decide) | (show (_ : Nat) < 3; decide)) | (apply Ab.Get.mk; first | rfl | fail) | (apply Ab.Nm.mk; first | first | exact Eq.trans (congrArg (fun z => List.take _ (List.drop (z * 3) cs)) (Int.toNat_natCast i)) hE | exact (show ((ec e).drop 0).take 3 = ec e from rfl) | exact (show ((ec ⟨e.a, e.b, 0⟩).drop 0).take 3 = ec ⟨e.a, e.b, 0⟩ from rfl) | exact nrm_) | (apply Xg.s; constructor) | (apply Ab.asm; assumption) | rfl | infer_instance | decide))
    all_goals ((first | apply RetQ.ret | apply RetQ.normal); (case he => exact evr_); (case hg => rfl))
    all_goals first | rfl | (apply Keeps.fr; (case h => exact fr_); (case hv => exact plR.nm rfl))
end Go.Proofs.Ytdbnpghckgmaoaa
