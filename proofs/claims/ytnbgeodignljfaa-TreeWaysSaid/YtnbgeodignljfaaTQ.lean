/- trees: the next node. -/
import Derived.Test.YtnbgeodignljfaaTO
namespace Go.Proofs.Ytnbgeodignljfaa
set_option linter.unusedVariables false
set_option linter.unusedSimpArgs false
set_option linter.unusedSectionVars false
open Go.RowKit Ab TP
attribute [local irreducible] AOps AOpsD AOp AWp put nargs AHeap.set At Free ACall ACallE thenQ blockQ roundQ RetQ RetE Src bsn
theorem next12_err {s : AHeap} {v : Value} {x : Int} {a b : Int} (hx : x ≠ 0) (c11 : ACall Try.prog 11 [v, .int .i64 a, .int .i64 b] s (.tuple #[.slice none 0 0, .int .i64 x]) s) :
    ACall Try.prog 12 [v, .int .i64 a, .int .i64 b] s (.tuple #[.int .i64 0, .int .i64 x]) s := by

  (refine ACall.make Try.func12 rfl (by kernel_rfl) (by decide) rfl (fun N hN => ?_); have hT : Top N _ := hN; (repeat' (first | (apply Ab.K.ev; exact ev_) | (apply Ab.K.aops; first | (apply Xg.s; constructor) | (apply Ab.S.guardU; (case hd => rfl); (case hb => (exact ev_; done))) | apply Ab.S.guardG) | (apply Ab.K.aop; first | (apply Og.s; constructor)) | (apply Ab.K.gk; first | (apply Xg.s; constructor) | (apply Ab.gY; case hw => assumption) | (apply Ab.gNT; case hw => assumption) | (apply Ab.gNF; case hw => assumption) | ((first | apply Ab.gD | apply Ab.gDN); all_goals (intro _ _; (first | contradiction | (exfalso; omega) | skip)))) | (apply Ab.K.awp; first | (apply Xg.s; constructor)) | (apply Ab.K.at_; exact at_) | (apply Ab.K.acall; first | assumption | exact c11) | (apply Ab.Rg.mk; omega) | (apply Ab.Lt.mk; first | decide | (simp; done) | (simp; omega) | fail) | (apply Ab.Get.mk; first | rfl | fail) | (apply Ab.Nm.mk; first | exact nrm_) | (apply Xg.s; constructor) | (apply Ab.asm; assumption) | rfl | infer_instance | decide)); (all_goals ((first | apply RetQ.ret | apply RetQ.normal); (case he => exact evr_); (case hg => rfl))); (all_goals first | rfl | (apply Keeps.fr; (case h => exact fr_); (case hv => exact plR.nm rfl)) | fail))
theorem next12_yes {s : AHeap} {v : Value} {a b y : Int} {p : List Int} (hp : p.length ≤ 64) (hpl : 1 ≤ p.length) (hy : (p ++ [b])[1]? = some y) (c11 : ∀ o, s o = none → ACall Try.prog 11 [v, .int .i64 a, .int .i64 b] s (.tuple #[.slice (some ⟨o, 0, none⟩) p.length p.length, .int .i64 0]) (s.set o (.cells true 1 (ints p)))) :
    ACall Try.prog 12 [v, .int .i64 a, .int .i64 b] s (.tuple #[.int .i64 y, .int .i64 0]) s := by
  refine ACall.make Try.func12 rfl (by kernel_rfl) (by decide) rfl (fun N hN => ?_)
  have hT : Top N s := hN
  have c1 := c11 N (hT.none (Nat.le_refl _))
  have hcl : (ints p).length = p.length := ints_length p


  (repeat' (first | (apply Ab.K.ev; exact ev_) | (apply Ab.K.aops; first | (apply Xg.s; constructor) | (apply Ab.S.guardU; (case hd => rfl); (case hb => (exact ev_; done))) | apply Ab.S.guardG) | (apply Ab.K.aop; first | (apply Ab.O.build1 (N + 1); (case hx => exact ev_); (case hv => exact ⟨rfl, rfl⟩); (case hz => exact ⟨rfl, rfl⟩); (case hid => exact free_)) | (apply Og.s; constructor)) | (apply Ab.K.gk; first | (apply Xg.s; constructor) | (apply Ab.gY; case hw => assumption) | (apply Ab.gNT; case hw => assumption) | (apply Ab.gNF; case hw => assumption) | ((first | apply Ab.gD | apply Ab.gDN); all_goals (intro _ _; (first | contradiction | (exfalso; omega) | skip)))) | (apply Ab.K.awp; first | (apply Xg.s; constructor)) | (apply Ab.K.at_; exact at_) | (apply Ab.K.acall; first | assumption | exact c1) | (apply Ab.Rg.mk; omega) | (apply Ab.Lt.mk; first | decide | (simp; done) | (simp; omega) | fail) | (apply Ab.Get.mk; first | rfl | fail) | (apply Ab.Nm.mk; first | exact nrm_) | (apply Xg.s; constructor) | (apply Ab.asm; assumption) | rfl | infer_instance | decide))
  (apply Ab.O.appendL (N + 2); (case hx => exact ev_); (case hL => first | exact LAt.nil | exact LAt.blk (by exact at_) (by first | rfl | exact hcl | (rw [Nat.mul_one]; exact hcl) | simp [ints_length])); (case hy => exact ev_); (case hs => first | exact Src.sl (by exact at_) (by decide) (by decide) rfl | exact srcAll (by exact at_) (by first | rfl | exact hcl | (rw [Nat.mul_one]; exact hcl) | simp [ints_length])); (case hk => rfl); (case hm => decide); (case hl => first | rfl | first | rfl | exact hcl | (rw [Nat.mul_one]; exact hcl) | simp [ints_length]); (case hz => decide); (case hb => omega); (case hfree => exact free_))
  intro s2 g
  have F : Fr s2 s [] := g.fr (Fr.new (hT.free (by omega)) (Fr.new (hT.free (by omega)) (Fr.refl _ _))) (fun q' e => .inl (hT.none (by have := Option.some.inj e; omega)))
  have gh := g.hit
  have gy : (ints p ++ [.int .i64 b])[Int.toNat 1]? = some (.int .i64 y) := by
    have := ints_get hy
    rwa [ints_append] at this

  (repeat' (first | (apply Ab.K.ev; exact ev_) | (apply Ab.K.aops; first | (apply Xg.s; constructor) | (apply Ab.S.guardU; (case hd => rfl); (case hb => (exact ev_; done))) | apply Ab.S.guardG) | (apply Ab.K.aop; first | (apply Og.s; constructor)) | (apply Ab.K.gk; first | (apply Xg.s; constructor) | (apply Ab.gY; case hw => assumption) | (apply Ab.gNT; case hw => assumption) | (apply Ab.gNF; case hw => assumption) | ((first | apply Ab.gD | apply Ab.gDN); all_goals (intro _ _; (first | contradiction | (exfalso; omega) | skip)))) | (apply Ab.K.awp; first | (apply Xg.s; constructor)) | (apply Ab.K.at_; exact at_) | (apply Ab.K.acall; first | assumption | fail) | (apply Ab.Rg.mk; omega) | (apply Ab.Lt.mk; first | decide | (simp; done) | (simp; omega) | fail) | (apply Ab.Get.mk; first | rfl | first | exact gy | (rw [Nat.mul_one]; exact gy)) | (apply Ab.Nm.mk; first | exact nrm_) | (apply Xg.s; constructor) | (apply Ab.asm; assumption) | rfl | infer_instance | decide))
  all_goals ((first | apply RetQ.ret | apply RetQ.normal); (case he => exact evr_); (case hg => rfl))
  all_goals first | rfl | exact Keeps.fr F (plR.nm rfl)
end Go.Proofs.Ytnbgeodignljfaa
