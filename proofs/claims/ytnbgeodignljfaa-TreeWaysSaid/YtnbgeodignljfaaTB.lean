/- trees: comparing, lists alike, edges in memory, who is reached. -/
import Derived.Test.YtnbgeodignljfaaTA
namespace Go.Proofs.Ytnbgeodignljfaa
set_option linter.unusedVariables false
set_option linter.unusedSimpArgs false
set_option linter.unusedSectionVars false
open Go.RowKit Ab TP
attribute [local irreducible] AOps AOpsD AOp AWp put nargs AHeap.set At Free ACall thenQ blockQ roundQ RetQ Src
/-! ### the order of edges -/
def or3 (a b c : Int) : Int := if a ≠ 0 then a else if b ≠ 0 then b else c
theorem or48 {s : AHeap} {q : Nat} {a b c : Int} (hq : At s q (.cells true 1 [.int .i64 a, .int .i64 b, .int .i64 c])) : ACall Try.prog 48 [.slice (some ⟨q, 0, none⟩) 3 3] s (.int .i64 (or3 a b c)) s := by
  unfold or3
  refine ACall.make Try.func48 rfl (by kernel_rfl) (by decide) rfl (fun N hN => ?_)
  (repeat' (first | (apply Ab.K.ev; exact ev_) | (apply Ab.K.aops; first | (apply Xg.s; constructor) | apply Ab.S.guardG) | (apply Ab.K.aop; first | (apply Og.s; constructor)) | (apply Ab.K.gk; first | (apply Xg.s; constructor) | (apply Ab.gY; case hw => assumption) | (apply Ab.gNT; case hw => assumption) | (apply Ab.gNF; case hw => assumption) | ((first | apply Ab.gD | apply Ab.gDN); all_goals (intro _ _; (first | contradiction | (exfalso; omega) | skip)))) | (apply Ab.K.awp; first | (apply Xg.s; constructor)) | (apply Ab.K.at_; exact at_) | (apply Ab.K.acall; first | assumption | fail) | (apply Ab.Rg.mk; omega) | (apply Ab.Lt.mk; first | decide | (simp; done) | (simp; omega) | fail) | (apply Ab.Get.mk; first | rfl | fail) | (apply Ab.Nm.mk; first | exact nrm_) | (apply Xg.s; constructor) | (apply Ab.asm; assumption) | rfl | infer_instance | decide))
  refine AWp.loop (fun kk tm s1 => ∃ i : Nat, Ev tm (.tmp 3) (.int .i64 0) ∧ Ev tm (.tmp 6) (.slice (some ⟨q, 0, none⟩) 3 3) ∧ Ev tm (.tmp 7) (.int .i64 (3 : Nat)) ∧ Ev tm (.tmp 8) (.int .i64 i) ∧ s1 = s ∧ i ≤ 3 ∧ (1 ≤ i → a = 0) ∧ (2 ≤ i → b = 0) ∧ (3 ≤ i → c = 0) ∧ kk = 3 - i) 3 ?_ ?_
  · exact ⟨0, by exact ev_, by exact ev_, by exact ev_, by exact ev_, rfl, by omega, by omega, by omega, by omega, rfl⟩
  · rintro k tm s1 ⟨i, e3, e6, e7, e8, rfl, hi, ha, hb, hc, hk⟩
    rcases (show i = 0 ∨ i = 1 ∨ i = 2 ∨ i = 3 by omega) with rfl | rfl | rfl | rfl
    · by_cases h : a = 0
      · (repeat' (first | (apply Ab.K.ev; exact ev_) | (apply Ab.K.aops; first | (apply Xg.s; constructor) | apply Ab.S.guardG) | (apply Ab.K.aop; first | (apply Og.s; constructor)) | (apply Ab.K.gk; first | (apply Xg.s; constructor) | (apply Ab.gY; case hw => assumption) | (apply Ab.gNT; case hw => assumption) | (apply Ab.gNF; case hw => assumption) | ((first | apply Ab.gD | apply Ab.gDN); all_goals (intro _ _; (first | contradiction | (exfalso; omega) | skip)))) | (apply Ab.K.awp; first | (apply Xg.s; constructor)) | (apply Ab.K.at_; exact at_) | (apply Ab.K.acall; first | assumption | fail) | (apply Ab.Rg.mk; omega) | (apply Ab.Lt.mk; first | decide | (simp; done) | (simp; omega) | fail) | (apply Ab.Get.mk; first | rfl | fail) | (apply Ab.Nm.mk; first | exact nrm_) | (apply Xg.s; constructor) | (apply Ab.asm; assumption) | rfl | infer_instance | decide))
        exact X.roundN (3 - (0 + 1)) (by omega) ⟨0 + 1, by exact ev_, by exact ev_, by exact ev_, by exact ev_, rfl, by omega, fun _ => h, by omega, by omega, rfl⟩
      · rw [if_pos h]
        (repeat' (first | (apply Ab.K.ev; exact ev_) | (apply Ab.K.aops; first | (apply Xg.s; constructor) | apply Ab.S.guardG) | (apply Ab.K.aop; first | (apply Og.s; constructor)) | (apply Ab.K.gk; first | (apply Xg.s; constructor) | (apply Ab.gY; case hw => assumption) | (apply Ab.gNT; case hw => assumption) | (apply Ab.gNF; case hw => assumption) | ((first | apply Ab.gD | apply Ab.gDN); all_goals (intro _ _; (first | contradiction | (exfalso; omega) | skip)))) | (apply Ab.K.awp; first | (apply Xg.s; constructor)) | (apply Ab.K.at_; exact at_) | (apply Ab.K.acall; first | assumption | fail) | (apply Ab.Rg.mk; omega) | (apply Ab.Lt.mk; first | decide | (simp; done) | (simp; omega) | fail) | (apply Ab.Get.mk; first | rfl | fail) | (apply Ab.Nm.mk; first | exact nrm_) | (apply Xg.s; constructor) | (apply Ab.asm; assumption) | rfl | infer_instance | decide))
        all_goals ((first | apply RetQ.ret | apply RetQ.normal); (case he => exact evr_); (case hg => rfl))
        all_goals first | rfl | exact Keeps.self trivial
    · rw [if_neg (fun x => x (ha (by omega)))]
      by_cases h : b = 0
      · (repeat' (first | (apply Ab.K.ev; exact ev_) | (apply Ab.K.aops; first | (apply Xg.s; constructor) | apply Ab.S.guardG) | (apply Ab.K.aop; first | (apply Og.s; constructor)) | (apply Ab.K.gk; first | (apply Xg.s; constructor) | (apply Ab.gY; case hw => assumption) | (apply Ab.gNT; case hw => assumption) | (apply Ab.gNF; case hw => assumption) | ((first | apply Ab.gD | apply Ab.gDN); all_goals (intro _ _; (first | contradiction | (exfalso; omega) | skip)))) | (apply Ab.K.awp; first | (apply Xg.s; constructor)) | (apply Ab.K.at_; exact at_) | (apply Ab.K.acall; first | assumption | fail) | (apply Ab.Rg.mk; omega) | (apply Ab.Lt.mk; first | decide | (simp; done) | (simp; omega) | fail) | (apply Ab.Get.mk; first | rfl | fail) | (apply Ab.Nm.mk; first | exact nrm_) | (apply Xg.s; constructor) | (apply Ab.asm; assumption) | rfl | infer_instance | decide))
        exact X.roundN (3 - (1 + 1)) (by omega) ⟨1 + 1, by exact ev_, by exact ev_, by exact ev_, by exact ev_, rfl, by omega, fun _ => ha (by omega), fun _ => h, by omega, rfl⟩
      · rw [if_pos h]
        (repeat' (first | (apply Ab.K.ev; exact ev_) | (apply Ab.K.aops; first | (apply Xg.s; constructor) | apply Ab.S.guardG) | (apply Ab.K.aop; first | (apply Og.s; constructor)) | (apply Ab.K.gk; first | (apply Xg.s; constructor) | (apply Ab.gY; case hw => assumption) | (apply Ab.gNT; case hw => assumption) | (apply Ab.gNF; case hw => assumption) | ((first | apply Ab.gD | apply Ab.gDN); all_goals (intro _ _; (first | contradiction | (exfalso; omega) | skip)))) | (apply Ab.K.awp; first | (apply Xg.s; constructor)) | (apply Ab.K.at_; exact at_) | (apply Ab.K.acall; first | assumption | fail) | (apply Ab.Rg.mk; omega) | (apply Ab.Lt.mk; first | decide | (simp; done) | (simp; omega) | fail) | (apply Ab.Get.mk; first | rfl | fail) | (apply Ab.Nm.mk; first | exact nrm_) | (apply Xg.s; constructor) | (apply Ab.asm; assumption) | rfl | infer_instance | decide))
        all_goals ((first | apply RetQ.ret | apply RetQ.normal); (case he => exact evr_); (case hg => rfl))
        all_goals first | rfl | exact Keeps.self trivial
    · rw [if_neg (fun x => x (ha (by omega))), if_neg (fun x => x (hb (by omega)))]
      by_cases h : c = 0
      · (repeat' (first | (apply Ab.K.ev; exact ev_) | (apply Ab.K.aops; first | (apply Xg.s; constructor) | apply Ab.S.guardG) | (apply Ab.K.aop; first | (apply Og.s; constructor)) | (apply Ab.K.gk; first | (apply Xg.s; constructor) | (apply Ab.gY; case hw => assumption) | (apply Ab.gNT; case hw => assumption) | (apply Ab.gNF; case hw => assumption) | ((first | apply Ab.gD | apply Ab.gDN); all_goals (intro _ _; (first | contradiction | (exfalso; omega) | skip)))) | (apply Ab.K.awp; first | (apply Xg.s; constructor)) | (apply Ab.K.at_; exact at_) | (apply Ab.K.acall; first | assumption | fail) | (apply Ab.Rg.mk; omega) | (apply Ab.Lt.mk; first | decide | (simp; done) | (simp; omega) | fail) | (apply Ab.Get.mk; first | rfl | fail) | (apply Ab.Nm.mk; first | exact nrm_) | (apply Xg.s; constructor) | (apply Ab.asm; assumption) | rfl | infer_instance | decide))
        exact X.roundN (3 - (2 + 1)) (by omega) ⟨2 + 1, by exact ev_, by exact ev_, by exact ev_, by exact ev_, rfl, by omega, fun _ => ha (by omega), fun _ => hb (by omega), fun _ => h, rfl⟩
      · (repeat' (first | (apply Ab.K.ev; exact ev_) | (apply Ab.K.aops; first | (apply Xg.s; constructor) | apply Ab.S.guardG) | (apply Ab.K.aop; first | (apply Og.s; constructor)) | (apply Ab.K.gk; first | (apply Xg.s; constructor) | (apply Ab.gY; case hw => assumption) | (apply Ab.gNT; case hw => assumption) | (apply Ab.gNF; case hw => assumption) | ((first | apply Ab.gD | apply Ab.gDN); all_goals (intro _ _; (first | contradiction | (exfalso; omega) | skip)))) | (apply Ab.K.awp; first | (apply Xg.s; constructor)) | (apply Ab.K.at_; exact at_) | (apply Ab.K.acall; first | assumption | fail) | (apply Ab.Rg.mk; omega) | (apply Ab.Lt.mk; first | decide | (simp; done) | (simp; omega) | fail) | (apply Ab.Get.mk; first | rfl | fail) | (apply Ab.Nm.mk; first | exact nrm_) | (apply Xg.s; constructor) | (apply Ab.asm; assumption) | rfl | infer_instance | decide))
        all_goals ((first | apply RetQ.ret | apply RetQ.normal); (case he => exact evr_); (case hg => rfl))
        all_goals first | rfl | exact Keeps.self trivial
    · rw [if_neg (fun x => x (ha (by omega))), if_neg (fun x => x (hb (by omega))), hc (by omega)]
      (repeat' (first | (apply Ab.K.ev; exact ev_) | (apply Ab.K.aops; first | (apply Xg.s; constructor) | apply Ab.S.guardG) | (apply Ab.K.aop; first | (apply Og.s; constructor)) | (apply Ab.K.gk; first | (apply Xg.s; constructor) | (apply Ab.gY; case hw => assumption) | (apply Ab.gNT; case hw => assumption) | (apply Ab.gNF; case hw => assumption) | ((first | apply Ab.gD | apply Ab.gDN); all_goals (intro _ _; (first | contradiction | (exfalso; omega) | skip)))) | (apply Ab.K.awp; first | (apply Xg.s; constructor)) | (apply Ab.K.at_; exact at_) | (apply Ab.K.acall; first | assumption | fail) | (apply Ab.Rg.mk; omega) | (apply Ab.Lt.mk; first | decide | (simp; done) | (simp; omega) | fail) | (apply Ab.Get.mk; first | rfl | fail) | (apply Ab.Nm.mk; first | exact nrm_) | (apply Xg.s; constructor) | (apply Ab.asm; assumption) | rfl | infer_instance | decide))
      all_goals ((first | apply RetQ.ret | apply RetQ.normal); (case he => exact evr_); (case hg => rfl))
      all_goals first | rfl | exact Keeps.self trivial
def ord (e f : E) : Int := or3 (cmp3 e.w f.w) (cmp3 e.a f.a) (cmp3 e.b f.b)
theorem ord_pos {e f : E} : 0 < ord e f ↔ less f e := by unfold ord or3 cmp3 less; grind
theorem compare41 {s : AHeap} {e f : E} : ACall Try.prog 41 [.agg (ec e).toArray, .agg (ec f).toArray] s (.int .i64 (ord e f)) s := by
  obtain ⟨a1, a2, a3⟩ := e
  obtain ⟨b1, b2, b3⟩ := f
  unfold ord
  simp only
  have c1 : ∀ s' : AHeap, ∀ q a b c, At s' q (.cells true 1 [.int .i64 a, .int .i64 b, .int .i64 c]) → ACall Try.prog 48 [.slice (some ⟨q, 0, none⟩) 3 3] s' (.int .i64 (or3 a b c)) s' := fun s' q a b c h => or48 h
  refine ACall.make Try.func41 rfl (by kernel_rfl) (by decide) rfl (fun N hN => ?_)
  have hT : Top N s := hN

  (repeat' (first | (apply Ab.K.ev; exact ev_) | (apply Ab.K.aops; first | (apply Xg.s; constructor) | apply Ab.S.guardG) | (apply Ab.K.aop; first | (first | (apply Ab.O.boxA (N + 0); (case hx => exact ev_); (case hid => exact frees_)) | (apply Ab.O.boxA (N + 1); (case hx => exact ev_); (case hid => exact frees_)) | (apply Ab.O.buildSlice (N + 2) (te := ⟨.int .i64, 1, 8, .int .i64 0⟩) (c := [.int .i64 (cmp3 a3 b3), .int .i64 (cmp3 a1 b1), .int .i64 (cmp3 a2 b2)]); (case hp => exact evp_); (case hz => exact ⟨rfl, by decide, rfl⟩); (case hc => rfl); (case hid => exact free_))) | (apply Og.s; constructor)) | (apply Ab.K.gk; first | (apply Xg.s; constructor) | (apply Ab.gY; case hw => assumption) | (apply Ab.gNT; case hw => assumption) | (apply Ab.gNF; case hw => assumption) | ((first | apply Ab.gD | apply Ab.gDN); all_goals (intro _ _; (first | contradiction | (exfalso; omega) | skip)))) | (apply Ab.K.aopsD; first | (apply Ab.D.q0t; (case hw => rfl); (case hot => rfl)) | (apply Ab.D.w1t; (case hw => rfl); (case hot => rfl)) | (apply Ab.D.q0; (case hw => rfl); intro _ _) | (apply Ab.D.w1n; (case hw => rfl); intro _ _) | (apply Ab.D.w2n; (case hw => rfl); intro _ _) | (apply Xg.s; constructor) | fail | apply Ab.D.guardG) | exact ⟨rfl, rfl⟩ | (apply Ab.K.awp; first | (apply AWp.draw (id := 1) [[], [0], [], [2], [0, 1, 2, 3], [], [5], [], [7], [0, 1, 2, 3, 4, 5, 6, 7, 8], [], [10], [], [12], [0, 1, 2, 3, 4, 5, 6, 7, 8, 9, 10, 11, 12, 13], [0, 1, 2, 3, 4, 5, 6, 7, 8, 9, 10, 11, 12, 13, 14], [0, 1, 2, 3, 4, 5, 6, 7, 8, 9, 10, 11, 12, 13, 14, 15], [0, 1, 2, 3, 4, 5, 6, 7, 8, 9, 10, 11, 12, 13, 14, 15, 16]] [(15, [N + 2])] (by kernel_rfl) (by kernel_rfl) (by simp [apartW, unordB, cC] <;> omega)) | (apply Xg.s; constructor)) | (apply Ab.K.at_; exact at_) | (apply Ab.K.acall; first | assumption | first | exact cmp49 | exact c1 _ _ (cmp3 a3 b3) (cmp3 a1 b1) (cmp3 a2 b2) (by exact at_)) | (apply Ab.Rg.mk; omega) | (apply Ab.Lt.mk; first | decide | (simp; done) | (simp; omega) | fail) | (apply Ab.Get.mk; first | rfl | fail) | (apply Ab.Nm.mk; first | exact nrm_) | (apply Xg.s; constructor) | (apply Ab.asm; assumption) | rfl | infer_instance | decide))
  all_goals ((first | apply RetQ.ret | apply RetQ.normal); (case he => exact evr_); (case hg => rfl))
  all_goals first | rfl | (apply Keeps.fr; (case h => exact fr_); (case hv => exact plR.nm rfl))
/-! ### edges in memory -/
inductive EA (s : AHeap) : Value → Option Nat → List E → Prop
  | nil : EA s (.slice none 0 0) none []
  | blk {q c : Nat} {rw : Bool} {cs : List Value} {l : List E} (h : At s q (.cells rw 3 cs)) (hn : l.length ≤ c) (hx : cs.take (l.length * 3) = ecs l) : EA s (.slice (some ⟨q, 0, none⟩) l.length c) (some q) l
namespace EA
variable {s s' : AHeap} {v : Value} {on : Option Nat} {l : List E}
theorem isl (h : EA s v on l) : ∃ A c, v = .slice A l.length c := by
  cases h with
  | nil => exact ⟨_, _, rfl⟩
  | blk => exact ⟨_, _, rfl⟩
theorem of_at (h : EA s v on l) (hs : ∀ o, on = some o → s' o = s o) : EA s' v on l := by
  cases h with
  | nil => exact .nil
  | blk h a b => exact .blk (by unfold At; rw [hs _ rfl]; exact h.eq) a b
theorem lt {M : Nat} (h : EA s v on l) (hT : Top M s) : ∀ o, on = some o → o < M := by
  cases h with
  | nil => intro o e; cases e
  | blk h a b => intro o e; obtain rfl := Option.some.inj e; exact hT.lt h
theorem elt {A : Option Addr} {c n : Nat} (h : EA s (.slice A n c) on l) {i : Nat} {e : E} (hi : l[i]? = some e) : ∃ q rw cs, A = some ⟨q, 0, none⟩ ∧ on = some q ∧ n = l.length ∧ At s q (.cells rw 3 cs) ∧ i * 3 + 3 ≤ cs.length ∧ (cs.drop (i * 3)).take 3 = ec e ∧
    cs[i * 3]? = some (.int .i64 e.a) ∧ cs[i * 3 + 1]? = some (.int .i64 e.b) ∧ cs[i * 3 + 2]? = some (.int .i64 e.w) := by
  cases h with
  | nil => simp at hi
  | @blk q _ rw cs _ h a b =>
    have hlt := (List.getElem?_eq_some_iff.1 hi).1
    have hlen : l.length * 3 ≤ cs.length := by
      have := congrArg List.length b
      rw [List.length_take, ecs_length] at this
      omega
    have hc : ∀ j, j < 3 → cs[i * 3 + j]? = (ec e)[j]? := fun j hj => by
      rw [← ecs_cell hi j hj, ← b, List.getElem?_take, if_pos (by omega)]
    refine ⟨q, rw, cs, rfl, rfl, rfl, h, by omega, ?_, hc 0 (by omega), hc 1 (by omega), hc 2 (by omega)⟩
    rw [← ecs_get hi, ← b]
    apply List.ext_getElem?
    intro j
    rw [List.getElem?_take, List.getElem?_take, List.getElem?_drop, List.getElem?_drop, List.getElem?_take]
    split
    · rw [if_pos (by omega)]
    · rfl
end EA
/-! ### rows of truths -/
def bsn (n : Nat) (f : Nat → Bool) : List Value := (List.range n).map fun i => .bool (f i)
theorem bsn_length {n : Nat} {f : Nat → Bool} : (bsn n f).length = n := by simp [bsn]
theorem bsn_pl {n : Nat} {f : Nat → Bool} : (bsn n f).all pl1 = true := by simp [bsn, pl1, plA]
theorem bsn_get {n : Nat} {f : Nat → Bool} {i : Nat} (h : i < n) : (bsn n f)[i]? = some (.bool (f i)) := by simp [bsn, h]
theorem bsn_set {n : Nat} {f : Nat → Bool} {i : Nat} (h : i < n) : (bsn n f).set i (.bool true) = bsn n (fun j => decide (j = i) || f j) := by
  apply List.ext_getElem?
  intro j
  rw [List.getElem?_set]
  by_cases hj : i = j
  · subst hj; simp [bsn, h]
  · rw [if_neg hj]
    by_cases hjn : j < n
    · simp [bsn, hjn, Ne.symm hj]
    · simp [bsn, hjn]
theorem bsn_congr {n : Nat} {f f' : Nat → Bool} (h : ∀ i, i < n → f i = f' i) : bsn n f = bsn n f' := by
  unfold bsn
  exact List.map_congr_left fun i hi => by rw [h i (List.mem_range.1 hi)]
instance td51 : HasTD Try.prog 51 ⟨.array 65 4, 65, 65, .agg (bsn 65 fun _ => false).toArray⟩ := ⟨by kernel_rfl⟩
set_option maxRecDepth 100000 in
instance td61 : HasTD Try.prog 61 ⟨.array 65 51, 4225, 4225, .agg (bsn 4225 fun _ => false).toArray⟩ := ⟨by kernel_rfl⟩
/-! ### lists alike -/
inductive NA (s : AHeap) : Value → Option Nat → List Int → Prop
  | nil : NA s (.slice none 0 0) none []
  | blk {q c : Nat} {rw : Bool} {cs : List Value} {l : List Int} (h : At s q (.cells rw 1 cs)) (hn : l.length ≤ c) (hx : cs.take l.length = ints l) : NA s (.slice (some ⟨q, 0, none⟩) l.length c) (some q) l
namespace NA
variable {s s' : AHeap} {v : Value} {on : Option Nat} {l : List Int}
theorem isl (h : NA s v on l) : ∃ A c, v = .slice A l.length c := by
  cases h with
  | nil => exact ⟨_, _, rfl⟩
  | blk => exact ⟨_, _, rfl⟩
theorem of_at (h : NA s v on l) (hs : ∀ o, on = some o → s' o = s o) : NA s' v on l := by
  cases h with
  | nil => exact .nil
  | blk h a b => exact .blk (by unfold At; rw [hs _ rfl]; exact h.eq) a b
theorem lt {M : Nat} (h : NA s v on l) (hT : Top M s) : ∀ o, on = some o → o < M := by
  cases h with
  | nil => intro o e; cases e
  | blk h a b => intro o e; obtain rfl := Option.some.inj e; exact hT.lt h
theorem elt {A : Option Addr} {c n : Nat} (h : NA s (.slice A n c) on l) {i : Nat} {x : Int} (hi : l[i]? = some x) : ∃ q rw cs, A = some ⟨q, 0, none⟩ ∧ on = some q ∧ n = l.length ∧ At s q (.cells rw 1 cs) ∧ cs[i]? = some (.int .i64 x) := by
  cases h with
  | nil => simp at hi
  | @blk q _ rw cs _ h a b =>
    have hlt := (List.getElem?_eq_some_iff.1 hi).1
    refine ⟨q, rw, cs, rfl, rfl, rfl, h, ?_⟩
    have := ints_get hi
    rw [← b, List.getElem?_take, if_pos hlt] at this
    exact this
end NA
theorem ints17 {s : AHeap} {A B : Option Addr} {c d n m : Nat} {on on' : Option Nat} {l l' : List Int} (h : NA s (.slice A n c) on l) (h' : NA s (.slice B m d) on' l') (hl : n < 4611686018427387904) (hl' : m < 4611686018427387904) :
    ACall Try.prog 17 [.slice A n c, .slice B m d] s (.bool (decide (l = l'))) s := by
  have e1 : n = l.length := by obtain ⟨_, _, e⟩ := h.isl; injection e
  have e2 : m = l'.length := by obtain ⟨_, _, e⟩ := h'.isl; injection e
  refine ACall.make Try.func17 rfl (by kernel_rfl) (by decide) rfl (fun N hN => ?_)
  by_cases hne : l.length = l'.length
  · have hnm : n = m := by omega
    subst hnm
    (repeat' (first | (apply Ab.K.ev; exact ev_) | (apply Ab.K.aops; first | (apply Xg.s; constructor) | apply Ab.S.guardG) | (apply Ab.K.aop; first | (first | (apply Ab.O.boxA (N + 0); (case hx => exact ev_); (case hid => exact frees_)) | (apply Ab.O.boxA (N + 1); (case hx => exact ev_); (case hid => exact frees_)) | (apply Ab.O.buildSlice (N + 2) (te := ⟨.int .i64, 1, 8, .int .i64 0⟩) (c := [.int .i64 (cmp3 a3 b3), .int .i64 (cmp3 a1 b1), .int .i64 (cmp3 a2 b2)]); (case hp => exact evp_); (case hz => exact ⟨rfl, by decide, rfl⟩); (case hc => rfl); (case hid => exact free_))) | (apply Og.s; constructor)) | (apply Ab.K.gk; first | (apply Xg.s; constructor) | (apply Ab.gY; case hw => assumption) | (apply Ab.gNT; case hw => assumption) | (apply Ab.gNF; case hw => assumption) | ((first | apply Ab.gD | apply Ab.gDN); all_goals (intro _ _; (first | contradiction | (exfalso; omega) | skip)))) | (apply Ab.K.awp; first | (apply Xg.s; constructor)) | (apply Ab.K.at_; exact at_) | (apply Ab.K.acall; first | assumption | first | exact cmp49 | exact c1 _ _ (cmp3 a3 b3) (cmp3 a1 b1) (cmp3 a2 b2) (by exact at_)) | (apply Ab.Rg.mk; omega) | (apply Ab.Lt.mk; first | decide | (simp; done) | (simp; omega) | fail) | (apply Ab.Get.mk; first | rfl | fail) | (apply Ab.Nm.mk; first | exact nrm_) | (apply Xg.s; constructor) | (apply Ab.asm; assumption) | rfl | infer_instance | decide))
    refine AWp.loop (fun kk tm s1 => ∃ i : Nat, Ev tm (.tmp 0) (.slice A n c) ∧ Ev tm (.tmp 1) (.slice B n d) ∧ Ev tm (.tmp 5) (.int .i64 i) ∧ s1 = s ∧ i ≤ n ∧ (∀ j, j < i → l[j]? = l'[j]?) ∧ kk = n - i) n ?_ ?_
    · exact ⟨0, by exact ev_, by exact ev_, by exact ev_, rfl, by omega, fun j hj => by omega, rfl⟩
    · rintro k tm s1 ⟨i, ev0, ev1, ev5, rfl, hi, hall, hk⟩
      by_cases hlt : i < n
      · obtain ⟨q, rw1, cs, rfl, _, _, hq, hx⟩ := h.elt (List.getElem?_eq_getElem (show i < l.length by omega))
        obtain ⟨q', rw2, cs', rfl, _, _, hq', hx'⟩ := h'.elt (List.getElem?_eq_getElem (show i < l'.length by omega))

        by_cases hn : l[i]'(by omega) = l'[i]'(by omega)
        · rw [← hn] at hx'
          (repeat' (first | (apply Ab.K.ev; exact ev_) | (apply Ab.K.aops; first | (apply Xg.s; constructor) | apply Ab.S.guardG) | (apply Ab.K.aop; first | (first | (apply Ab.O.boxA (N + 0); (case hx => exact ev_); (case hid => exact frees_)) | (apply Ab.O.boxA (N + 1); (case hx => exact ev_); (case hid => exact frees_)) | (apply Ab.O.buildSlice (N + 2) (te := ⟨.int .i64, 1, 8, .int .i64 0⟩) (c := [.int .i64 (cmp3 a3 b3), .int .i64 (cmp3 a1 b1), .int .i64 (cmp3 a2 b2)]); (case hp => exact evp_); (case hz => exact ⟨rfl, by decide, rfl⟩); (case hc => rfl); (case hid => exact free_))) | (apply Og.s; constructor)) | (apply Ab.K.gk; first | (apply Xg.s; constructor) | (apply Ab.gY; case hw => assumption) | (apply Ab.gNT; case hw => assumption) | (apply Ab.gNF; case hw => assumption) | ((first | apply Ab.gD | apply Ab.gDN); all_goals (intro _ _; (first | contradiction | (exfalso; omega) | skip)))) | (apply Ab.K.aopsD; first | (apply Ab.D.q0t; (case hw => rfl); (case hot => rfl)) | (apply Ab.D.w1t; (case hw => rfl); (case hot => rfl)) | (apply Ab.D.q0; (case hw => rfl); intro _ _) | (apply Ab.D.w1n; (case hw => rfl); intro _ _) | (apply Ab.D.w2n; (case hw => rfl); intro _ _) | (apply Xg.s; constructor) | fail | apply Ab.D.guardG) | exact ⟨rfl, rfl⟩ | (apply Ab.K.awp; first | (apply AWp.draw (id := 6) [[], [], [0, 1], [0, 1, 2], [], [], [4, 5], [4, 5, 6], [0, 1, 2, 3, 4, 5, 6, 7]] [] (by kernel_rfl) (by kernel_rfl) (by simp [apartW, unordB, cC] <;> omega)) | (apply Xg.s; constructor)) | (apply Ab.K.at_; exact at_) | (apply Ab.K.acall; first | assumption | first | exact cmp49 | exact c1 _ _ (cmp3 a3 b3) (cmp3 a1 b1) (cmp3 a2 b2) (by exact at_)) | (apply Ab.Rg.mk; omega) | (apply Ab.Lt.mk; first | decide | (simp; done) | (simp; omega) | fail) | (apply Ab.Get.mk; first | rfl | (rw [Int.toNat_natCast]; first | exact hx | exact hx')) | (apply Ab.Nm.mk; first | exact nrm_) | (apply Xg.s; constructor) | (apply Ab.asm; assumption) | rfl | infer_instance | decide))
          exact X.roundN (n - (i + 1)) (by omega) ⟨i + 1, by exact ev_, by exact ev_, by exact ev_, rfl, by omega, fun j hj => (by
            by_cases e : j = i
            · subst e; rw [List.getElem?_eq_getElem (show j < l.length by omega), List.getElem?_eq_getElem (show j < l'.length by omega), hn]
            · exact hall j (by omega)), rfl⟩
        · have hm : l ≠ l' := fun e => by subst e; exact hn rfl
          (repeat' (first | (apply Ab.K.ev; exact ev_) | (apply Ab.K.aops; first | (apply Xg.s; constructor) | apply Ab.S.guardG) | (apply Ab.K.aop; first | (first | (apply Ab.O.boxA (N + 0); (case hx => exact ev_); (case hid => exact frees_)) | (apply Ab.O.boxA (N + 1); (case hx => exact ev_); (case hid => exact frees_)) | (apply Ab.O.buildSlice (N + 2) (te := ⟨.int .i64, 1, 8, .int .i64 0⟩) (c := [.int .i64 (cmp3 a3 b3), .int .i64 (cmp3 a1 b1), .int .i64 (cmp3 a2 b2)]); (case hp => exact evp_); (case hz => exact ⟨rfl, by decide, rfl⟩); (case hc => rfl); (case hid => exact free_))) | (apply Og.s; constructor)) | (apply Ab.K.gk; first | (apply Xg.s; constructor) | (apply Ab.gY; case hw => assumption) | (apply Ab.gNT; case hw => assumption) | (apply Ab.gNF; case hw => assumption) | ((first | apply Ab.gD | apply Ab.gDN); all_goals (intro _ _; (first | contradiction | (exfalso; omega) | skip)))) | (apply Ab.K.aopsD; first | (apply Ab.D.q0t; (case hw => rfl); (case hot => rfl)) | (apply Ab.D.w1t; (case hw => rfl); (case hot => rfl)) | (apply Ab.D.q0; (case hw => rfl); intro _ _) | (apply Ab.D.w1n; (case hw => rfl); intro _ _) | (apply Ab.D.w2n; (case hw => rfl); intro _ _) | (apply Xg.s; constructor) | fail | apply Ab.D.guardG) | exact ⟨rfl, rfl⟩ | (apply Ab.K.awp; first | (apply AWp.draw (id := 6) [[], [], [0, 1], [0, 1, 2], [], [], [4, 5], [4, 5, 6], [0, 1, 2, 3, 4, 5, 6, 7]] [] (by kernel_rfl) (by kernel_rfl) (by simp [apartW, unordB, cC] <;> omega)) | (apply Xg.s; constructor)) | (apply Ab.K.at_; exact at_) | (apply Ab.K.acall; first | assumption | first | exact cmp49 | exact c1 _ _ (cmp3 a3 b3) (cmp3 a1 b1) (cmp3 a2 b2) (by exact at_)) | (apply Ab.Rg.mk; omega) | (apply Ab.Lt.mk; first | decide | (simp; done) | (simp; omega) | fail) | (apply Ab.Get.mk; first | rfl | (rw [Int.toNat_natCast]; first | exact hx | exact hx')) | (apply Ab.Nm.mk; first | exact nrm_) | (apply Xg.s; constructor) | (apply Ab.asm; assumption) | rfl | infer_instance | decide))
          all_goals ((first | apply RetQ.ret | apply RetQ.normal); (case he => exact evr_); (case hg => rfl))
          all_goals first | (exact bdec (by simp [hm])) | exact Keeps.self trivial
      · have hm : l = l' := List.ext_getElem? fun j => by
          by_cases hj : j < n
          · exact hall j (by omega)
          · rw [List.getElem?_eq_none (by omega), List.getElem?_eq_none (by omega)]
        (repeat' (first | (apply Ab.K.ev; exact ev_) | (apply Ab.K.aops; first | (apply Xg.s; constructor) | apply Ab.S.guardG) | (apply Ab.K.aop; first | (first | (apply Ab.O.boxA (N + 0); (case hx => exact ev_); (case hid => exact frees_)) | (apply Ab.O.boxA (N + 1); (case hx => exact ev_); (case hid => exact frees_)) | (apply Ab.O.buildSlice (N + 2) (te := ⟨.int .i64, 1, 8, .int .i64 0⟩) (c := [.int .i64 (cmp3 a3 b3), .int .i64 (cmp3 a1 b1), .int .i64 (cmp3 a2 b2)]); (case hp => exact evp_); (case hz => exact ⟨rfl, by decide, rfl⟩); (case hc => rfl); (case hid => exact free_))) | (apply Og.s; constructor)) | (apply Ab.K.gk; first | (apply Xg.s; constructor) | (apply Ab.gY; case hw => assumption) | (apply Ab.gNT; case hw => assumption) | (apply Ab.gNF; case hw => assumption) | ((first | apply Ab.gD | apply Ab.gDN); all_goals (intro _ _; (first | contradiction | (exfalso; omega) | skip)))) | (apply Ab.K.awp; first | (apply Xg.s; constructor)) | (apply Ab.K.at_; exact at_) | (apply Ab.K.acall; first | assumption | first | exact cmp49 | exact c1 _ _ (cmp3 a3 b3) (cmp3 a1 b1) (cmp3 a2 b2) (by exact at_)) | (apply Ab.Rg.mk; omega) | (apply Ab.Lt.mk; first | decide | (simp; done) | (simp; omega) | fail) | (apply Ab.Get.mk; first | rfl | (rw [Int.toNat_natCast]; first | exact hx | exact hx')) | (apply Ab.Nm.mk; first | exact nrm_) | (apply Xg.s; constructor) | (apply Ab.asm; assumption) | rfl | infer_instance | decide))
        all_goals ((first | apply RetQ.ret | apply RetQ.normal); (case he => exact evr_); (case hg => rfl))
        all_goals first | (exact bdec (by simp [hm])) | exact Keeps.self trivial
  · have hm : l ≠ l' := fun e => hne (by rw [e])
    (repeat' (first | (apply Ab.K.ev; exact ev_) | (apply Ab.K.aops; first | (apply Xg.s; constructor) | apply Ab.S.guardG) | (apply Ab.K.aop; first | (first | (apply Ab.O.boxA (N + 0); (case hx => exact ev_); (case hid => exact frees_)) | (apply Ab.O.boxA (N + 1); (case hx => exact ev_); (case hid => exact frees_)) | (apply Ab.O.buildSlice (N + 2) (te := ⟨.int .i64, 1, 8, .int .i64 0⟩) (c := [.int .i64 (cmp3 a3 b3), .int .i64 (cmp3 a1 b1), .int .i64 (cmp3 a2 b2)]); (case hp => exact evp_); (case hz => exact ⟨rfl, by decide, rfl⟩); (case hc => rfl); (case hid => exact free_))) | (apply Og.s; constructor)) | (apply Ab.K.gk; first | (apply Xg.s; constructor) | (apply Ab.gY; case hw => assumption) | (apply Ab.gNT; case hw => assumption) | (apply Ab.gNF; case hw => assumption) | ((first | apply Ab.gD | apply Ab.gDN); all_goals (intro _ _; (first | contradiction | (exfalso; omega) | skip)))) | (apply Ab.K.awp; first | (apply Xg.s; constructor)) | (apply Ab.K.at_; exact at_) | (apply Ab.K.acall; first | assumption | first | exact cmp49 | exact c1 _ _ (cmp3 a3 b3) (cmp3 a1 b1) (cmp3 a2 b2) (by exact at_)) | (apply Ab.Rg.mk; omega) | (apply Ab.Lt.mk; first | decide | (simp; done) | (simp; omega) | fail) | (apply Ab.Get.mk; first | rfl | (rw [Int.toNat_natCast]; first | exact hx | exact hx')) | (apply Ab.Nm.mk; first | exact nrm_) | (apply Xg.s; constructor) | (apply Ab.asm; assumption) | rfl | infer_instance | decide))
    all_goals ((first | apply RetQ.ret | apply RetQ.normal); (case he => exact evr_); (case hg => rfl))
    all_goals first | (exact bdec (by simp [hm])) | exact Keeps.self trivial
theorem ints_take {p : List Int} {j : Nat} {y : Int} (h : p[j]? = some y) : ints (p.take (j + 1)) = ints (p.take j) ++ [.int .i64 y] := by
  rw [List.take_add_one, h, ints_append]; rfl
end Go.Proofs.Ytnbgeodignljfaa
