/- trees: the first edge of a kind by a pure function; copies of edges. -/
import Derived.Test.YtnbgeodignljfaaTL
namespace Go.Proofs.Ytnbgeodignljfaa
set_option linter.unusedVariables false
set_option linter.unusedSimpArgs false
set_option linter.unusedSectionVars false
open Go.RowKit Ab TP
theorem _root_.Go.Proofs.Ytnbgeodignljfaa.Ab.ACallE.toCall {P : Program} {f : FuncId} {args : List Value} {s s' : AHeap} {v : Value} {Q : Value → AHeap → Prop} (h : ACallE P f args s Q) (hq : ∀ v1 s1, Q v1 s1 → v1 = v ∧ s1 = s') : ACall P f args s v s' :=
  ⟨h.1, fun W0 ρ w args' ha hS => (h.2 W0 ρ w args' ha hS).mono fun e w' hh => by
    obtain ⟨v1, s1, ρ', v', q, r⟩ := hh
    obtain ⟨rfl, rfl⟩ := hq v1 s1 q
    exact ⟨ρ', v', r⟩⟩
attribute [local irreducible] AOps AOpsD AOp AWp put nargs AHeap.set At Free ACall ACallE thenQ blockQ roundQ RetQ RetE Src bsn
def atB (l : List E) (b : E → Bool) (i : Nat) : Bool := match l[i]? with
  | some e => b e
  | none => false
theorem atB_at {l : List E} {b : E → Bool} {i : Nat} {e : E} (h : l[i]? = some e) : atB l b i = b e := by unfold atB; rw [h]
theorem index38p {s : AHeap} {A : Option Addr} {n c : Nat} {on : Option Nat} {l : List E} {fn : FuncId} {caps : Array Value} {b : E → Bool} (h : EA s (.slice A n c) on l) (hF : ∀ e, e ∈ l → ACall Try.prog fn (.agg (ec e).toArray :: caps.toList) s (.bool (b e)) s) (hn : n ≤ 512) :
    ACallE Try.prog 38 [.slice A n c, .func (.func fn) #[] caps] s (fun v s' => s' = s ∧ ((∃ i e, i < n ∧ l[i]? = some e ∧ b e = true ∧ (∀ f ∈ l.take i, b f = false) ∧ v = .int .i64 i) ∨ ((∀ f ∈ l, b f = false) ∧ v = .int .i64 (-1)))) := by
  have hnl : n = l.length := by obtain ⟨_, _, e⟩ := h.isl; injection e
  refine (index38 (l := l) (b := atB l b) (fun _ s1 => s1 = s) (fun i s1 e => ⟨on, by rw [e]; exact h⟩) (fun i s1 e => by rw [e]; exact Ext.refl _) (fun i e s1 hi _ hs => ?_) rfl hn).mono fun v s' hh => ?_
  · rw [hs, atB_at hi]
    exact (hF e (List.mem_of_getElem? hi)).toE.mono fun v1 s2 hh => hh
  · have hall : ∀ k, k ≤ n → (∀ j, j < k → atB l b j = false) → ∀ f ∈ l.take k, b f = false := fun k hk hb f hf => by
      obtain ⟨j, hj⟩ := List.mem_iff_getElem?.1 hf
      have hjk : j < k := by have := (List.getElem?_eq_some_iff.1 hj).1; rw [List.length_take] at this; omega
      rw [List.getElem?_take, if_pos hjk] at hj
      exact (atB_at (b := b) hj).symm.trans (hb j hjk)
    rcases hh with ⟨i, h1, h2, h3, h4, h5⟩ | ⟨h1, h2, h3⟩
    · obtain ⟨e, he⟩ : ∃ e, l[i]? = some e := ⟨_, List.getElem?_eq_getElem (by omega)⟩
      rw [atB_at he] at h2
      exact ⟨h5, .inl ⟨i, e, h1, he, h2, hall i (by omega) h3, h4⟩⟩
    · exact ⟨h3, .inr ⟨by have := hall n (Nat.le_refl _) h1; rwa [hnl, List.take_length] at this, h2⟩⟩
/-! ### copies -/
theorem clone32_nil {s : AHeap} {c : Nat} : ACall Try.prog 32 [.slice none 0 c] s (.slice none 0 0) s := by
  (refine ACall.make Try.func32 rfl (by kernel_rfl) (by decide) rfl (fun N hN => ?_); have hT : Top N _ := hN; (repeat' (first | (apply Ab.K.ev; exact ev_) | (apply Ab.K.aops; first | (apply Xg.s; constructor) | (apply Ab.S.guardU; (case hd => rfl); (case hb => (exact ev_; done))) | apply Ab.S.guardG) | (apply Ab.K.aop; first | (apply Og.s; constructor)) | (apply Ab.K.gk; first | (apply Xg.s; constructor) | (apply Ab.gY; case hw => assumption) | (apply Ab.gNT; case hw => assumption) | (apply Ab.gNF; case hw => assumption) | ((first | apply Ab.gD | apply Ab.gDN); all_goals (intro _ _; (first | contradiction | (exfalso; omega) | skip)))) | (apply Ab.K.awp; first | (apply Xg.s; constructor)) | (apply Ab.K.at_; exact at_) | (apply Ab.K.acall; first | assumption | fail) | (apply Ab.Rg.mk; omega) | (apply Ab.Lt.mk; first | decide | (simp; done) | (simp; omega) | fail) | (apply Ab.Get.mk; first | rfl | fail) | (apply Ab.Nm.mk; first | exact nrm_) | (apply Xg.s; constructor) | (apply Ab.asm; assumption) | rfl | infer_instance | decide)); (all_goals ((first | apply RetQ.ret | apply RetQ.normal); (case he => exact evr_); (case hg => rfl))); (all_goals first | rfl | (apply Keeps.fr; (case h => exact fr_); (case hv => exact plR.nm rfl)) | fail))
theorem EA.cells {s : AHeap} {q n c : Nat} {on : Option Nat} {l : List E} (h : EA s (.slice (some ⟨q, 0, none⟩) n c) on l) : ∃ rw cs, At s q (.cells rw 3 cs) ∧ n = l.length ∧ n * 3 ≤ cs.length ∧ cs.take (n * 3) = ecs l := by
  cases h with
  | @blk q _ rw cs _ h a b =>
    refine ⟨rw, cs, h, rfl, ?_, b⟩
    have := congrArg List.length b
    rw [List.length_take, ecs_length] at this
    omega
theorem EA.nil_len {s : AHeap} {n c : Nat} {on : Option Nat} {l : List E} (h : EA s (.slice none n c) on l) : n = 0 ∧ c = 0 ∧ l = [] := by
  cases h with
  | nil => exact ⟨rfl, rfl, rfl⟩
theorem EA.addr {s : AHeap} {A : Option Addr} {n c : Nat} {on : Option Nat} {l : List E} (h : EA s (.slice A n c) on l) : A = none ∨ ∃ q, A = some ⟨q, 0, none⟩ := by
  cases h with
  | nil => exact .inl rfl
  | blk => exact .inr ⟨_, rfl⟩
theorem clone32 {s : AHeap} {q n c o : Nat} {on : Option Nat} {l : List E} (h : EA s (.slice (some ⟨q, 0, none⟩) n c) on l) (hn : n ≤ 512) (ho : s o = none) :
    ACall Try.prog 32 [.slice (some ⟨q, 0, none⟩) n c] s (.slice (some ⟨o, 0, none⟩) n n) (s.set o (.cells true 3 (ecs l))) := by
  obtain ⟨rw1, cs, hA, hnl, hcs, htk⟩ := h.cells
  have hbo : q ≠ o := fun e => by subst e; rw [hA.eq] at ho; cases ho
  have hfo : Free s o := free_of ho
  refine ACall.make Try.func32 rfl (by kernel_rfl) (by decide) rfl (fun N hN => ?_)
  have hT : Top N s := hN
  by_cases hn0 : n = 0
  · subst hn0
    obtain rfl : l = [] := List.length_eq_zero_iff.1 hnl.symm
    (repeat' (first | (apply Ab.K.ev; exact ev_) | (apply Ab.K.aops; first | (apply Xg.s; constructor) | (apply Ab.S.guardU; (case hd => rfl); (case hb => (exact ev_; done))) | apply Ab.S.guardG) | (apply Ab.K.aop; first | (first | (apply Ab.O.build0 o (te := ⟨.struct [(0, 3), (1, 3), (2, 3)], 3, 24, .agg #[.int .i64 0, .int .i64 0, .int .i64 0]⟩); (case hz => exact ⟨rfl, rfl⟩); (case hid => exact hfo)) | (apply Ab.O.appendNone; (case hx => exact ev_); (case hy => exact ev_); (case hs => exact Src.none); (case hk => rfl))) | (apply Og.s; constructor)) | (apply Ab.K.gk; first | (apply Xg.s; constructor) | (apply Ab.gY; case hw => assumption) | (apply Ab.gNT; case hw => assumption) | (apply Ab.gNF; case hw => assumption) | ((first | apply Ab.gD | apply Ab.gDN); all_goals (intro _ _; (first | contradiction | (exfalso; omega) | skip)))) | (apply Ab.K.awp; first | (apply Xg.s; constructor)) | (apply Ab.K.at_; exact at_) | (apply Ab.K.acall; first | assumption | fail) | (apply Ab.Rg.mk; omega) | (apply Ab.Lt.mk; first | decide | (simp; done) | (simp; omega) | fail) | (apply Ab.Get.mk; first | rfl | fail) | (apply Ab.Nm.mk; first | exact nrm_) | (apply Xg.s; constructor) | (apply Ab.asm; assumption) | rfl | infer_instance | decide))
    all_goals ((first | apply RetQ.ret | apply RetQ.normal); (case he => exact evr_); (case hg => rfl))
    · rfl
    · exact Keeps.upd [(o, .cells true 3 [])] (Fr.set (by simp) (Fr.refl _ _)) ⟨⟨At.hit, by intro x hx; cases hx⟩, trivial⟩ (by simp [nmR, nmB, nm1, nmA, updH, AHeap.set_same])
  · have hbN : q < N := hT.lt hA
    have hm : N + o + 1 ≠ o := by omega
    (repeat' (first | (apply Ab.K.ev; exact ev_) | (apply Ab.K.aops; first | (apply Xg.s; constructor) | (apply Ab.S.guardU; (case hd => rfl); (case hb => (exact ev_; done))) | apply Ab.S.guardG) | (apply Ab.K.aop; first | (apply Ab.O.build0 (N + o + 1) (te := ⟨.struct [(0, 3), (1, 3), (2, 3)], 3, 24, .agg #[.int .i64 0, .int .i64 0, .int .i64 0]⟩); (case hz => exact ⟨rfl, rfl⟩); (case hid => exact free_)) | (apply Og.s; constructor)) | (apply Ab.K.gk; first | (apply Xg.s; constructor) | (apply Ab.gY; case hw => assumption) | (apply Ab.gNT; case hw => assumption) | (apply Ab.gNF; case hw => assumption) | ((first | apply Ab.gD | apply Ab.gDN); all_goals (intro _ _; (first | contradiction | (exfalso; omega) | skip)))) | (apply Ab.K.awp; first | (apply Xg.s; constructor)) | (apply Ab.K.at_; exact at_) | (apply Ab.K.acall; first | assumption | fail) | (apply Ab.Rg.mk; omega) | (apply Ab.Lt.mk; first | decide | (simp; done) | (simp; omega) | fail) | (apply Ab.Get.mk; first | rfl | fail) | (apply Ab.Nm.mk; first | exact nrm_) | (apply Xg.s; constructor) | (apply Ab.asm; assumption) | rfl | infer_instance | decide))
    refine O.appendL o (v := .slice (some ⟨N + o + 1, 0, none⟩) 0 0) (vy := .slice (some ⟨q, 0, none⟩) n c) (es := 3) (n := 0) (m := n) (xs := []) (ys := ecs l) (on := some (N + o + 1)) ?_ (LAt.blk At.hit rfl) ?_ (Src.sl (At.miss (by omega) hA) hn0 (by omega) (by rw [List.drop_zero]; exact htk)) rfl hn0 (by rw [ecs_length, hnl]) (by decide) (by omega) (by exact free_) ?_
    · exact ev_
    · exact ev_
    intro s2 g
    (repeat' (first | (apply Ab.K.ev; exact ev_) | (apply Ab.K.aops; first | (apply Xg.s; constructor) | (apply Ab.S.guardU; (case hd => rfl); (case hb => (exact ev_; done))) | apply Ab.S.guardG) | (apply Ab.K.aop; first | (apply Og.s; constructor)) | (apply Ab.K.gk; first | (apply Xg.s; constructor) | (apply Ab.gY; case hw => assumption) | (apply Ab.gNT; case hw => assumption) | (apply Ab.gNF; case hw => assumption) | ((first | apply Ab.gD | apply Ab.gDN); all_goals (intro _ _; (first | contradiction | (exfalso; omega) | skip)))) | (apply Ab.K.awp; first | (apply Xg.s; constructor)) | (apply Ab.K.at_; exact at_) | (apply Ab.K.acall; first | assumption | fail) | (apply Ab.Rg.mk; omega) | (apply Ab.Lt.mk; first | decide | (simp; done) | (simp; omega) | fail) | (apply Ab.Get.mk; first | rfl | fail) | (apply Ab.Nm.mk; first | exact nrm_) | (apply Xg.s; constructor) | (apply Ab.asm; assumption) | rfl | infer_instance | decide))
    all_goals ((first | apply RetQ.ret | apply RetQ.normal); (case he => exact evr_); (case hg => rfl))
    · simp only [resV, Nat.zero_add]
    · have f0 : Fr (s.set (N + o + 1) (.cells true 3 [])) s [o] := Fr.new (hT.free (by omega)) (Fr.refl _ _)
      have f2 : Fr s2 s [o] := g.fr f0 (fun q e => .inl (by obtain rfl := Option.some.inj e; exact hT.none (by omega)))
      have hh := g.hit
      rw [List.nil_append] at hh
      exact Keeps.upd [(o, .cells true 3 (ecs l))] f2 ⟨⟨hh, nm_scal (ecs_pl _)⟩, trivial⟩ (by simp [nmR, nmB, nm1, nmA, updH, AHeap.set_same])
end Go.Proofs.Ytnbgeodignljfaa
