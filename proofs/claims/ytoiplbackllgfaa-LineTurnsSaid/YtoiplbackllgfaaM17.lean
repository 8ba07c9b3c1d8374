/- texts of this claim, one behind the other: LR, LU. -/
import Derived.Test.YtoiplbackllgfaaM15
import Derived.Test.YtoiplbackllgfaaM16

/- lines: what a frame is to a line, by the program. -/
namespace Go.Proofs.Ytoiplbackllgfaa
set_option linter.unusedVariables false
set_option linter.unusedSimpArgs false
set_option linter.unusedSectionVars false
open Go.RowKit Ab HP
attribute [local irreducible] AOps AOpsD AOpsP QStep NX AOp AWp put nargs AHeap.set At Free ACall ACallE thenQ blockQ roundQ RetQ RetE Src Gr
/-- What a proposal, a welcome, another frame is to a line. -/
def lhear (l : Ln) (f : Fm) (lim : Int) : Ln × Nw :=
  if f.kind = 1 then (⟨(hello lim l.h f.ses).1, if helE lim l.h f.ses = true then sd0 else l.s, if helE lim l.h f.ses = true then tk0 else l.t⟩, ⟨if (hello lim l.h f.ses).2 = true then [⟨2, f.ses, 0, 0, []⟩] else [], [], helE lim l.h f.ses, 0⟩)
  else if f.kind = 2 then (if welE l.h.prop f.ses = true then (⟨welcome l.h f.ses, sd0, tk0⟩, ⟨[], [], false, f.ses⟩) else (l, nw0))
  else if l.h.cur ≠ 0 ∧ f.ses = l.h.cur then lheard l f else (l, nw0)

set_option maxHeartbeats 8000000 in
theorem hear10' {s b : AHeap} {last cur prop base sent clock next : Int} {over owes : Bool} {v : Value} {q : List (List Int)} {kind ses seq ack lim : Int} {w : Value} {p : List Int} (hb : Sub b s) (h : Qt b v q) (hp : Bt b w p) (hm : Ln.May ⟨⟨last, cur, prop, over⟩, ⟨base, sent, q, clock⟩, ⟨next, owes⟩⟩) (hf : Fm.May ⟨kind, ses, seq, ack, p⟩) (hli : 1 ≤ lim ∧ lim ≤ 2147483647) :
    ACallE Try.prog 10 [.agg (lna last cur prop over base sent v clock next owes).toArray, .agg #[.int .i64 kind, .int .i64 ses, .int .i64 seq, .int .i64 ack, w], .int .i64 lim] s (Pu s b (LWE (lhear ⟨⟨last, cur, prop, over⟩, ⟨base, sent, q, clock⟩, ⟨next, owes⟩⟩ ⟨kind, ses, seq, ack, p⟩ lim).1 (lhear ⟨⟨last, cur, prop, over⟩, ⟨base, sent, q, clock⟩, ⟨next, owes⟩⟩ ⟨kind, ses, seq, ack, p⟩ lim).2 0)) := by
  have hq : q.length ≤ 256 := hm.1.2.1.1.2.1
  have hl : ∀ x ∈ q, x.length ≤ 1000000000 := fun x hx => Nat.le_trans (big_get hm.1.2.1.2 x hx) (by omega)
  have hpl : p.length ≤ 16384 := hf.2.2.2.2.1
  have hhm : H.May ⟨last, cur, prop, over⟩ := hm.1.1
  refine ACallE.make Try.func10 rfl (by kernel_rfl) (by decide) rfl (fun N hN0 => ?_)
  have hT : Top N s := hN0
  obtain ⟨A, cap, rfl, hcap⟩ := h.isl
  obtain ⟨A2, cap2, rfl, hcap2⟩ := hp.isl
  obtain ⟨s1, hs1⟩ : ∃ s1 : AHeap, s1 = (((s.set N (.cells true 1 (lna last cur prop over base sent (.slice A q.length cap) clock next owes))).set (N + 1) (.cells true 1 [.int .i64 kind, .int .i64 ses, .int .i64 seq, .int .i64 ack, .slice A2 p.length cap2])).set (N + 2) (.cells true 1 ln00)).set (N + 3) (.cells true 1 nw00) := ⟨_, rfl⟩
  have I0 := (((Inv.refl hb).boxT (c := .cells true 1 (lna last cur prop over base sent (.slice A q.length cap) clock next owes)) hT (Nat.le_refl _)).boxT (c := .cells true 1 [.int .i64 kind, .int .i64 ses, .int .i64 seq, .int .i64 ack, .slice A2 p.length cap2]) hT.new (Nat.le_refl _)).boxT (c := .cells true 1 ln00) hT.new.new (Nat.le_refl _)
  have I1 : Inv s b s1 b := by rw [hs1]; exact I0.boxT hT.new.new.new (Nat.le_refl _)
  have z : ∀ i, N ≤ i → i < N + 4 → Prv s s1 b i := fun i h1 h2 => ⟨hT.none h1, hb.none (hT.none h1), by
    rw [hs1]
    rcases (show i = N ∨ i = N + 1 ∨ i = N + 2 ∨ i = N + 3 by omega) with rfl | rfl | rfl | rfl
    all_goals simp [AHeap.set]⟩
  have T1 : Top (N + 4) s1 := by rw [hs1]; exact hT.new.new.new.new
  have aN : At s1 N (.cells true 1 (lna last cur prop over base sent (.slice A q.length cap) clock next owes)) := by rw [hs1]; exact at_
  have aN1 : At s1 (N + 1) (.cells true 1 [.int .i64 kind, .int .i64 ses, .int .i64 seq, .int .i64 ack, .slice A2 p.length cap2]) := by rw [hs1]; exact at_
  have aN2 : At s1 (N + 2) (.cells true 1 ln00) := by rw [hs1]; exact at_
  have aN3 : At s1 (N + 3) (.cells true 1 nw00) := by rw [hs1]; exact At.hit
  have c14 := checkL' (s := s1) (last := last) (cur := cur) (prop := prop) (over := over) (base := base) (sent := sent) (clock := clock) (next := next) (owes := owes) (h.sub datQ I1.sub) (by omega)
  rw [if_pos hm] at c14
  have c32 := checkF' (s := s1) (kind := kind) (ses := ses) (seq := seq) (ack := ack) (hp.bt I1.sub)
  rw [if_pos hf] at c32
  have c31 := count_dec (s := s1) (n := lim)
  rw [decide_eq_true hli] at c31
  have c33 := own33' (last := last) (cur := cur) (prop := prop) (over := over) (base := base) (sent := sent) (clock := clock) (next := next) (owes := owes) I1.sub h (by omega) hl


  (repeat' ((fail_if_success (apply Ab.O.allocA; (case hid => fail))); first | (apply Ab.K.ev; exact ev_) | (apply Ab.K.aops; first | (apply Xg.s; constructor) | apply Ab.S.guardG) | (apply Ab.K.aop; first | (first | (apply Ab.O.boxA N; (case hx => exact ev_); (case hid => exact frees_)) | (apply Ab.O.boxA (N + 1); (case hx => exact ev_); (case hid => exact frees_)) | (apply Ab.O.allocA (N + 2); (case hid => exact frees_); (case hp => rfl)) | (apply Ab.O.allocA (N + 3); (case hid => exact frees_); (case hp => rfl)) | (apply Ab.O.callFE; (case ha => exact evs_); (case hc => exact c33))) | (apply Og.s; constructor)) | (apply Ab.K.gk; first | (apply Xg.s; constructor) | (apply Ab.gY; case hw => assumption) | (apply Ab.gNT; case hw => assumption) | (apply Ab.gNF; case hw => assumption) | ((first | apply Ab.gD | apply Ab.gDN); all_goals (intro _ _; (first | contradiction | (exfalso; omega) | skip)))) | (apply Ab.K.aopsD; first | (apply Ab.D.q0t; (case hw => rfl); (case hot => rfl)) | (apply Ab.D.w1t; (case hw => rfl); (case hot => rfl)) | (apply Ab.D.q0; (case hw => rfl); intro _ _) | (apply Ab.D.w1n; (case hw => rfl); intro _ _) | (apply Ab.D.w2n; (case hw => rfl); intro _ _) | (apply Xg.s; constructor) | fail | apply Ab.D.guardG) | (apply Ab.K.aopsP; first | apply Ab.Pd.nil | (apply Ab.Pd.q; (case hi => rfl)) | (apply Ab.Pd.z; (case hi => rfl)) | (apply Ab.Pd.zU; (case hi => rfl); (case hd => rfl); (case hb => (exact ev_; done))) | (apply Ab.Pd.zG; (case hi => rfl); (case hd => rfl)) | (apply Ab.Pd.st; (case hi => rfl)) | (apply Ab.Pd.qU; (case hi => rfl); (case hd => rfl); (case hb => (exact ev_; done))) | (apply Ab.Pd.qG; (case hi => rfl); (case hd => rfl)) | (apply Ab.Pd.stU; (case hi => rfl); (case hd => rfl); (case hb => (exact ev_; done))) | (apply Ab.Pd.stG; (case hi => rfl); (case hd => rfl))) | (apply Ab.Pd.qs; intro _ _) | (apply Ab.Pd.nxE; (case hE => rfl)) | (apply Ab.Pd.nxR; (case hr => (repeat' (first | exact Ab.Sub.del _ _ | assumption | (apply Ab.Sub.setI; (case hn => simp)) | (apply Ab.Sub.setF; (case hn => exact free_)) | exact (Ab.Sub.del _ _).trans (by assumption))))) | exact ⟨rfl, rfl⟩ | (apply Ab.K.awp; first | (apply AWp.schedS (id := 16) [(0, 1), (1, 2), (2, 2), (3, 1), (4, 0), (5, 0), (6, 0)] [5, 6] [[], [0], [], [2], [0, 1], [0, 1, 2, 3, 4], [0, 1, 2, 3, 4, 5]] [N] (by kernel_rfl) (by kernel_rfl) (by kernel_rfl) rfl) | (apply AWp.schedS (id := 19) [(0, 1), (1, 1), (2, 0), (3, 0), (4, 0)] [3, 4] [[], [], [0], [0, 1, 2], [0, 1, 2, 3]] [N + 2, N + 3] (by kernel_rfl) (by kernel_rfl) (by kernel_rfl) rfl) | (apply Xg.s; constructor)) | (apply Ab.K.at_; exact at_) | (apply Ab.K.acall; first | assumption | first | exact c32 | exact c31 | (rw [← hs1]; exact c14)) | (apply Ab.Rg.mk; omega) | (apply Ab.Lt.mk; first | decide | (simp; done) | (simp; omega) | fail) | (apply Ab.Get.mk; first | rfl | fail) | (apply Ab.Nm.mk; first | exact nrm_) | (apply Xg.s; constructor) | (apply Ab.asm; assumption) | rfl | infer_instance | decide))
  rintro r s2 ⟨b2, I2, c5, rfl, v2, rfl, hv2⟩
  clear c14 c32 c31 c33
  have I3 := I1.trans I2
  obtain ⟨M, hM, T2⟩ := I2.fin _ T1
  have P0 := (z N (by omega) (by omega)).call I2
  have P2 := (z (N + 2) (by omega) (by omega)).call I2
  have P3 := (z (N + 3) (by omega) (by omega)).call I2
  have e0 := I2.kp.at_ aN
  have e1 := I2.kp.at_ aN1
  have e2 := I2.kp.at_ aN2
  have e3 := I2.kp.at_ aN3
  have hp2 := hp.bt I2.old
  obtain ⟨B, c6, rfl, _⟩ := hv2.isl
  clear aN aN1 aN2 aN3 z I0 hs1 I1
  obtain ⟨s3, hs3⟩ : ∃ s3 : AHeap, s3 = (s2.set N (.cells true 1 (lna last cur prop over base sent (.slice B q.length c6) clock next owes))).set M (.cells true 1 nw00) := ⟨_, rfl⟩
  have I4 : Inv s b s3 b2 := by rw [hs3]; exact (I3.boxP P0).boxT (T2.set (by omega)) (Nat.le_refl _)
  have Q0 : Prv s s3 b2 N := by rw [hs3]; exact P0.set.set
  have Q2 : Prv s s3 b2 (N + 2) := by rw [hs3]; exact P2.set.set
  have Q3 : Prv s s3 b2 (N + 3) := by rw [hs3]; exact P3.set.set
  have QM : Prv s s3 b2 M := by rw [hs3]; exact Prv.mk' (I3.boxP P0) ((T2.set (by omega)).none (Nat.le_refl _))
  have T3 : Top (M + 1) s3 := by rw [hs3]; exact Top.new (T2.set (by omega))
  have d0 : At s3 N (.cells true 1 (lna last cur prop over base sent (.slice B q.length c6) clock next owes)) := by rw [hs3]; exact at_
  have d1 : At s3 (N + 1) (.cells true 1 [.int .i64 kind, .int .i64 ses, .int .i64 seq, .int .i64 ack, .slice A2 p.length cap2]) := by rw [hs3]; exact at_
  have d2 : At s3 (N + 2) (.cells true 1 ln00) := by rw [hs3]; exact at_
  have d3 : At s3 (N + 3) (.cells true 1 nw00) := by rw [hs3]; exact at_
  have dM : At s3 M (.cells true 1 nw00) := by rw [hs3]; exact At.hit
  by_cases hk : kind = 1
  case pos =>
    have hy : lhear ⟨⟨last, cur, prop, over⟩, ⟨base, sent, q, clock⟩, ⟨next, owes⟩⟩ ⟨kind, ses, seq, ack, p⟩ lim = (⟨(hello lim ⟨last, cur, prop, over⟩ ses).1, if helE lim ⟨last, cur, prop, over⟩ ses = true then sd0 else ⟨base, sent, q, clock⟩, if helE lim ⟨last, cur, prop, over⟩ ses = true then tk0 else ⟨next, owes⟩⟩, ⟨if (hello lim ⟨last, cur, prop, over⟩ ses).2 = true then [⟨2, ses, 0, 0, []⟩] else [], [], helE lim ⟨last, cur, prop, over⟩ ses, 0⟩) := if_pos hk
    rw [hy]
    have ch := fun s' : AHeap => hello_ok' (s := s') (p := ses) hhm hli
    obtain ⟨⟨last', cur', prop', over'⟩, hh⟩ : ∃ h', h' = (hello lim ⟨last, cur, prop, over⟩ ses).1 := ⟨_, rfl⟩
    rw [← hh] at ch ⊢
    unfold hv at ch
    obtain ⟨s4, hs4⟩ : ∃ s4 : AHeap, s4 = (s3.set (M + 1) (.cells true 1 [.int .i64 0, .int .i64 0, .int .i64 0, .bool false])).set (M + 1) (.cells true 1 [.int .i64 last', .int .i64 cur', .int .i64 prop', .bool over']) := ⟨_, rfl⟩
    have J4 : Inv s b s4 b2 := by rw [hs4]; exact (I4.boxT T3 (Nat.le_refl _)).boxP (Prv.mk' I4 (T3.none (Nat.le_refl _)))
    have R0 : Prv s s4 b2 N := by rw [hs4]; (repeat' (first | assumption | apply Ab.Prv.set))
    have R2 : Prv s s4 b2 (N + 2) := by rw [hs4]; (repeat' (first | assumption | apply Ab.Prv.set))
    have R3 : Prv s s4 b2 (N + 3) := by rw [hs4]; (repeat' (first | assumption | apply Ab.Prv.set))
    have RM : Prv s s4 b2 M := by rw [hs4]; (repeat' (first | assumption | apply Ab.Prv.set))
    have T4 : Top (M + 2) s4 := by rw [hs4]; exact T3.new.set (by omega)
    cases hE : helE lim ⟨last, cur, prop, over⟩ ses <;> cases hW : (hello lim ⟨last, cur, prop, over⟩ ses).2
    all_goals rw [hE, hW] at ch
    · (repeat' ((fail_if_success (apply Ab.O.allocA; (case hid => fail))); first | (apply Ab.K.ev; exact ev_) | (apply Ab.K.aops; first | (apply Xg.s; constructor) | apply Ab.S.guardG) | (apply Ab.K.aop; first | (first | (apply Ab.O.allocA M; (case hid => exact Top.free (T2.set (by omega)) (Nat.le_refl _)); (case hp => rfl)) | (apply Ab.O.allocA (M + 1); (case hid => first | exact T3.free (Nat.le_refl _) | exact (Top.new (T2.set (by omega))).free (Nat.le_refl _)); (case hp => rfl))) | (apply Og.s; constructor)) | (apply Ab.K.gk; first | (apply Xg.s; constructor) | (apply Ab.gY; case hw => assumption) | (apply Ab.gNT; case hw => assumption) | (apply Ab.gNF; case hw => assumption) | ((first | apply Ab.gD | apply Ab.gDN); all_goals (intro _ _; (first | contradiction | (exfalso; omega) | skip)))) | (apply Ab.K.aopsD; first | (apply Ab.D.q0t; (case hw => rfl); (case hot => rfl)) | (apply Ab.D.w1t; (case hw => rfl); (case hot => rfl)) | (apply Ab.D.q0; (case hw => rfl); intro _ _) | (apply Ab.D.w1n; (case hw => rfl); intro _ _) | (apply Ab.D.w2n; (case hw => rfl); intro _ _) | (apply Xg.s; constructor) | fail | apply Ab.D.guardG) | (apply Ab.K.aopsP; first | apply Ab.Pd.nil | (apply Ab.Pd.q; (case hi => rfl)) | (apply Ab.Pd.z; (case hi => rfl)) | (apply Ab.Pd.zU; (case hi => rfl); (case hd => rfl); (case hb => (exact ev_; done))) | (apply Ab.Pd.zG; (case hi => rfl); (case hd => rfl)) | (apply Ab.Pd.st; (case hi => rfl)) | (apply Ab.Pd.qU; (case hi => rfl); (case hd => rfl); (case hb => (exact ev_; done))) | (apply Ab.Pd.qG; (case hi => rfl); (case hd => rfl)) | (apply Ab.Pd.stU; (case hi => rfl); (case hd => rfl); (case hb => (exact ev_; done))) | (apply Ab.Pd.stG; (case hi => rfl); (case hd => rfl))) | (apply Ab.Pd.qs; intro _ _) | (apply Ab.Pd.nxE; (case hE => rfl)) | (apply Ab.Pd.nxR; (case hr => (repeat' (first | exact Ab.Sub.del _ _ | assumption | (apply Ab.Sub.setI; (case hn => simp)) | (apply Ab.Sub.setF; (case hn => exact free_)) | exact (Ab.Sub.del _ _).trans (by assumption))))) | exact ⟨rfl, rfl⟩ | (apply Ab.K.awp; first | (apply AWp.schedS (id := 16) [(0, 1), (1, 2), (2, 2), (3, 1), (4, 0), (5, 0), (6, 0)] [5, 6] [[], [0], [], [2], [0, 1], [0, 1, 2, 3, 4], [0, 1, 2, 3, 4, 5]] [N] (by kernel_rfl) (by kernel_rfl) (by kernel_rfl) rfl) | (apply AWp.schedS (id := 19) [(0, 1), (1, 1), (2, 0), (3, 0), (4, 0)] [3, 4] [[], [], [0], [0, 1, 2], [0, 1, 2, 3]] [N + 2, N + 3] (by kernel_rfl) (by kernel_rfl) (by kernel_rfl) rfl) | (apply Xg.s; constructor)) | (apply Ab.K.at_; exact at_) | (apply Ab.K.acall; first | assumption | exact ch _) | (apply Ab.Rg.mk; omega) | (apply Ab.Lt.mk; first | decide | (simp; done) | (simp; omega) | fail) | (apply Ab.Get.mk; first | rfl | fail) | (apply Ab.Nm.mk; first | exact nrm_) | (apply Xg.s; constructor) | (apply Ab.asm; assumption) | rfl | infer_instance | decide))
      all_goals apply RetE.puR (b := b2)
      case I => rw [← hs3, ← hs4]; (repeat' (first | assumption | (apply Ab.Inv.boxP; (case p => (repeat' (first | assumption | apply Ab.Prv.set))))))
      case he => exact evr_
      case hg => rfl
      · exact (LWE.mk (y := ⟨⟨last', cur', prop', over'⟩, ⟨base, sent, q, clock⟩, ⟨next, owes⟩⟩) (n := ⟨[], [], false, 0⟩) ⟨_, rfl, hv2⟩ ⟨_, _, rfl, .nil, .nil⟩).1
      · exact (LWE.mk (y := ⟨⟨last', cur', prop', over'⟩, ⟨base, sent, q, clock⟩, ⟨next, owes⟩⟩) (n := ⟨[], [], false, 0⟩) ⟨_, rfl, hv2⟩ ⟨_, _, rfl, .nil, .nil⟩).2
    · (repeat' ((fail_if_success (apply Ab.O.allocA; (case hid => fail))); first | (apply Ab.K.ev; exact ev_) | (apply Ab.K.aops; first | (apply Xg.s; constructor) | apply Ab.S.guardG) | (apply Ab.K.aop; first | (first | (apply Ab.O.allocA M; (case hid => exact Top.free (T2.set (by omega)) (Nat.le_refl _)); (case hp => rfl)) | (apply Ab.O.allocA (M + 1); (case hid => first | exact T3.free (Nat.le_refl _) | exact (Top.new (T2.set (by omega))).free (Nat.le_refl _)); (case hp => rfl)) | (apply Ab.O.build1A (M + 2); (case hx => exact ev_); (case hl => rfl); (case hz => exact ⟨rfl, rfl⟩); (case hes => decide); (case hid => first | exact T4.free (Nat.le_refl _) | exact free_))) | (apply Og.s; constructor)) | (apply Ab.K.gk; first | (apply Xg.s; constructor) | (apply Ab.gY; case hw => assumption) | (apply Ab.gNT; case hw => assumption) | (apply Ab.gNF; case hw => assumption) | ((first | apply Ab.gD | apply Ab.gDN); all_goals (intro _ _; (first | contradiction | (exfalso; omega) | skip)))) | (apply Ab.K.aopsD; first | (apply Ab.D.q0t; (case hw => rfl); (case hot => rfl)) | (apply Ab.D.w1t; (case hw => rfl); (case hot => rfl)) | (apply Ab.D.q0; (case hw => rfl); intro _ _) | (apply Ab.D.w1n; (case hw => rfl); intro _ _) | (apply Ab.D.w2n; (case hw => rfl); intro _ _) | (apply Xg.s; constructor) | fail | apply Ab.D.guardG) | (apply Ab.K.aopsP; first | apply Ab.Pd.nil | (apply Ab.Pd.q; (case hi => rfl)) | (apply Ab.Pd.z; (case hi => rfl)) | (apply Ab.Pd.zU; (case hi => rfl); (case hd => rfl); (case hb => (exact ev_; done))) | (apply Ab.Pd.zG; (case hi => rfl); (case hd => rfl)) | (apply Ab.Pd.st; (case hi => rfl)) | (apply Ab.Pd.qU; (case hi => rfl); (case hd => rfl); (case hb => (exact ev_; done))) | (apply Ab.Pd.qG; (case hi => rfl); (case hd => rfl)) | (apply Ab.Pd.stU; (case hi => rfl); (case hd => rfl); (case hb => (exact ev_; done))) | (apply Ab.Pd.stG; (case hi => rfl); (case hd => rfl))) | (apply Ab.Pd.qs; intro _ _) | (apply Ab.Pd.nxE; (case hE => rfl)) | (apply Ab.Pd.nxR; (case hr => (repeat' (first | exact Ab.Sub.del _ _ | assumption | (apply Ab.Sub.setI; (case hn => simp)) | (apply Ab.Sub.setF; (case hn => exact free_)) | exact (Ab.Sub.del _ _).trans (by assumption))))) | exact ⟨rfl, rfl⟩ | (apply Ab.K.awp; first | (apply AWp.schedS (id := 16) [(0, 1), (1, 2), (2, 2), (3, 1), (4, 0), (5, 0), (6, 0)] [5, 6] [[], [0], [], [2], [0, 1], [0, 1, 2, 3, 4], [0, 1, 2, 3, 4, 5]] [N] (by kernel_rfl) (by kernel_rfl) (by kernel_rfl) rfl) | (apply AWp.schedS (id := 19) [(0, 1), (1, 1), (2, 0), (3, 0), (4, 0)] [3, 4] [[], [], [0], [0, 1, 2], [0, 1, 2, 3]] [N + 2, N + 3] (by kernel_rfl) (by kernel_rfl) (by kernel_rfl) rfl) | (apply Xg.s; constructor)) | (apply Ab.K.at_; exact at_) | (apply Ab.K.acall; first | assumption | exact ch _) | (apply Ab.Rg.mk; omega) | (apply Ab.Lt.mk; first | decide | (simp; done) | (simp; omega) | fail) | (apply Ab.Get.mk; first | rfl | fail) | (apply Ab.Nm.mk; first | exact nrm_) | (apply Xg.s; constructor) | (apply Ab.asm; assumption) | rfl | infer_instance | decide))
      have hs5 : Sub b2 (b2.set (M + 2) (.cells true 5 [.int .i64 2, .int .i64 ses, .int .i64 0, .int .i64 0, .slice none 0 0])) := Sub.new (J4.sub.none (T4.none (Nat.le_refl _)))
      have hfr : Sl (b2.set (M + 2) (.cells true 5 [.int .i64 2, .int .i64 ses, .int .i64 0, .int .i64 0, .slice none 0 0])) 5 (RF (b2.set (M + 2) (.cells true 5 [.int .i64 2, .int .i64 ses, .int .i64 0, .int .i64 0, .slice none 0 0]))) (.slice (some ⟨M + 2, 0, none⟩) 1 1) [⟨2, ses, 0, 0, []⟩] := .blk At.hit rfl (Nat.le_refl _) (Cs.snoc (l := []) Cs.nil rfl ⟨_, rfl, .nil⟩)
      all_goals apply RetE.puR (b := b2.set (M + 2) (.cells true 5 [.int .i64 2, .int .i64 ses, .int .i64 0, .int .i64 0, .slice none 0 0]))
      case I => rw [← hs3, ← hs4]; (repeat' (first | assumption | (apply Ab.Inv.add; (case hs => exact (show Ab.Free _ _ from free_).eq); (case hn => exact Ab.nm_scal rfl)) | (apply Ab.Inv.boxP; (case p => (repeat' (first | assumption | (apply Ab.Prv.tell; (case hi => omega)) | apply Ab.Prv.set))))))
      case he => exact evr_
      case hg => rfl
      · exact (LWE.mk (y := ⟨⟨last', cur', prop', over'⟩, ⟨base, sent, q, clock⟩, ⟨next, owes⟩⟩) (n := ⟨[⟨2, ses, 0, 0, []⟩], [], false, 0⟩) ⟨_, rfl, (hv2.sub datQ (Sub.new (J4.sub.none (T4.none (Nat.le_refl _)))))⟩ ⟨_, _, rfl, hfr, .nil⟩).1
      · exact (LWE.mk (y := ⟨⟨last', cur', prop', over'⟩, ⟨base, sent, q, clock⟩, ⟨next, owes⟩⟩) (n := ⟨[⟨2, ses, 0, 0, []⟩], [], false, 0⟩) ⟨_, rfl, (hv2.sub datQ (Sub.new (J4.sub.none (T4.none (Nat.le_refl _)))))⟩ ⟨_, _, rfl, hfr, .nil⟩).2
    · (repeat' ((fail_if_success (apply Ab.O.allocA; (case hid => fail))); first | (apply Ab.K.ev; exact ev_) | (apply Ab.K.aops; first | (apply Xg.s; constructor) | apply Ab.S.guardG) | (apply Ab.K.aop; first | (first | (apply Ab.O.allocA M; (case hid => exact Top.free (T2.set (by omega)) (Nat.le_refl _)); (case hp => rfl)) | (apply Ab.O.allocA (M + 1); (case hid => first | exact T3.free (Nat.le_refl _) | exact (Top.new (T2.set (by omega))).free (Nat.le_refl _)); (case hp => rfl))) | (apply Og.s; constructor)) | (apply Ab.K.gk; first | (apply Xg.s; constructor) | (apply Ab.gY; case hw => assumption) | (apply Ab.gNT; case hw => assumption) | (apply Ab.gNF; case hw => assumption) | ((first | apply Ab.gD | apply Ab.gDN); all_goals (intro _ _; (first | contradiction | (exfalso; omega) | skip)))) | (apply Ab.K.aopsD; first | (apply Ab.D.q0t; (case hw => rfl); (case hot => rfl)) | (apply Ab.D.w1t; (case hw => rfl); (case hot => rfl)) | (apply Ab.D.q0; (case hw => rfl); intro _ _) | (apply Ab.D.w1n; (case hw => rfl); intro _ _) | (apply Ab.D.w2n; (case hw => rfl); intro _ _) | (apply Xg.s; constructor) | fail | apply Ab.D.guardG) | (apply Ab.K.aopsP; first | apply Ab.Pd.nil | (apply Ab.Pd.q; (case hi => rfl)) | (apply Ab.Pd.z; (case hi => rfl)) | (apply Ab.Pd.zU; (case hi => rfl); (case hd => rfl); (case hb => (exact ev_; done))) | (apply Ab.Pd.zG; (case hi => rfl); (case hd => rfl)) | (apply Ab.Pd.st; (case hi => rfl)) | (apply Ab.Pd.qU; (case hi => rfl); (case hd => rfl); (case hb => (exact ev_; done))) | (apply Ab.Pd.qG; (case hi => rfl); (case hd => rfl)) | (apply Ab.Pd.stU; (case hi => rfl); (case hd => rfl); (case hb => (exact ev_; done))) | (apply Ab.Pd.stG; (case hi => rfl); (case hd => rfl))) | (apply Ab.Pd.qs; intro _ _) | (apply Ab.Pd.nxE; (case hE => rfl)) | (apply Ab.Pd.nxR; (case hr => (repeat' (first | exact Ab.Sub.del _ _ | assumption | (apply Ab.Sub.setI; (case hn => simp)) | (apply Ab.Sub.setF; (case hn => exact free_)) | exact (Ab.Sub.del _ _).trans (by assumption))))) | exact ⟨rfl, rfl⟩ | (apply Ab.K.awp; first | (apply AWp.schedS (id := 16) [(0, 1), (1, 2), (2, 2), (3, 1), (4, 0), (5, 0), (6, 0)] [5, 6] [[], [0], [], [2], [0, 1], [0, 1, 2, 3, 4], [0, 1, 2, 3, 4, 5]] [N] (by kernel_rfl) (by kernel_rfl) (by kernel_rfl) rfl) | (apply AWp.schedS (id := 19) [(0, 1), (1, 1), (2, 0), (3, 0), (4, 0)] [3, 4] [[], [], [0], [0, 1, 2], [0, 1, 2, 3]] [N + 2, N + 3] (by kernel_rfl) (by kernel_rfl) (by kernel_rfl) rfl) | (apply Xg.s; constructor)) | (apply Ab.K.at_; exact at_) | (apply Ab.K.acall; first | assumption | exact ch _) | (apply Ab.Rg.mk; omega) | (apply Ab.Lt.mk; first | decide | (simp; done) | (simp; omega) | fail) | (apply Ab.Get.mk; first | rfl | fail) | (apply Ab.Nm.mk; first | exact nrm_) | (apply Xg.s; constructor) | (apply Ab.asm; assumption) | rfl | infer_instance | decide))
      all_goals apply RetE.puR (b := b2)
      case I => rw [← hs3, ← hs4]; (repeat' (first | assumption | (apply Ab.Inv.boxP; (case p => (repeat' (first | assumption | apply Ab.Prv.set))))))
      case he => exact evr_
      case hg => rfl
      · exact (LWE.mk (y := ⟨⟨last', cur', prop', over'⟩, sd0, tk0⟩) (n := ⟨[], [], true, 0⟩) ⟨_, rfl, .nil⟩ ⟨_, _, rfl, .nil, .nil⟩).1
      · exact (LWE.mk (y := ⟨⟨last', cur', prop', over'⟩, sd0, tk0⟩) (n := ⟨[], [], true, 0⟩) ⟨_, rfl, .nil⟩ ⟨_, _, rfl, .nil, .nil⟩).2
    · (repeat' ((fail_if_success (apply Ab.O.allocA; (case hid => fail))); first | (apply Ab.K.ev; exact ev_) | (apply Ab.K.aops; first | (apply Xg.s; constructor) | apply Ab.S.guardG) | (apply Ab.K.aop; first | (first | (apply Ab.O.allocA M; (case hid => exact Top.free (T2.set (by omega)) (Nat.le_refl _)); (case hp => rfl)) | (apply Ab.O.allocA (M + 1); (case hid => first | exact T3.free (Nat.le_refl _) | exact (Top.new (T2.set (by omega))).free (Nat.le_refl _)); (case hp => rfl)) | (apply Ab.O.build1A (M + 2); (case hx => exact ev_); (case hl => rfl); (case hz => exact ⟨rfl, rfl⟩); (case hes => decide); (case hid => first | exact T4.free (Nat.le_refl _) | exact free_))) | (apply Og.s; constructor)) | (apply Ab.K.gk; first | (apply Xg.s; constructor) | (apply Ab.gY; case hw => assumption) | (apply Ab.gNT; case hw => assumption) | (apply Ab.gNF; case hw => assumption) | ((first | apply Ab.gD | apply Ab.gDN); all_goals (intro _ _; (first | contradiction | (exfalso; omega) | skip)))) | (apply Ab.K.aopsD; first | (apply Ab.D.q0t; (case hw => rfl); (case hot => rfl)) | (apply Ab.D.w1t; (case hw => rfl); (case hot => rfl)) | (apply Ab.D.q0; (case hw => rfl); intro _ _) | (apply Ab.D.w1n; (case hw => rfl); intro _ _) | (apply Ab.D.w2n; (case hw => rfl); intro _ _) | (apply Xg.s; constructor) | fail | apply Ab.D.guardG) | (apply Ab.K.aopsP; first | apply Ab.Pd.nil | (apply Ab.Pd.q; (case hi => rfl)) | (apply Ab.Pd.z; (case hi => rfl)) | (apply Ab.Pd.zU; (case hi => rfl); (case hd => rfl); (case hb => (exact ev_; done))) | (apply Ab.Pd.zG; (case hi => rfl); (case hd => rfl)) | (apply Ab.Pd.st; (case hi => rfl)) | (apply Ab.Pd.qU; (case hi => rfl); (case hd => rfl); (case hb => (exact ev_; done))) | (apply Ab.Pd.qG; (case hi => rfl); (case hd => rfl)) | (apply Ab.Pd.stU; (case hi => rfl); (case hd => rfl); (case hb => (exact ev_; done))) | (apply Ab.Pd.stG; (case hi => rfl); (case hd => rfl))) | (apply Ab.Pd.qs; intro _ _) | (apply Ab.Pd.nxE; (case hE => rfl)) | (apply Ab.Pd.nxR; (case hr => (repeat' (first | exact Ab.Sub.del _ _ | assumption | (apply Ab.Sub.setI; (case hn => simp)) | (apply Ab.Sub.setF; (case hn => exact free_)) | exact (Ab.Sub.del _ _).trans (by assumption))))) | exact ⟨rfl, rfl⟩ | (apply Ab.K.awp; first | (apply AWp.schedS (id := 16) [(0, 1), (1, 2), (2, 2), (3, 1), (4, 0), (5, 0), (6, 0)] [5, 6] [[], [0], [], [2], [0, 1], [0, 1, 2, 3, 4], [0, 1, 2, 3, 4, 5]] [N] (by kernel_rfl) (by kernel_rfl) (by kernel_rfl) rfl) | (apply AWp.schedS (id := 19) [(0, 1), (1, 1), (2, 0), (3, 0), (4, 0)] [3, 4] [[], [], [0], [0, 1, 2], [0, 1, 2, 3]] [N + 2, N + 3] (by kernel_rfl) (by kernel_rfl) (by kernel_rfl) rfl) | (apply Xg.s; constructor)) | (apply Ab.K.at_; exact at_) | (apply Ab.K.acall; first | assumption | exact ch _) | (apply Ab.Rg.mk; omega) | (apply Ab.Lt.mk; first | decide | (simp; done) | (simp; omega) | fail) | (apply Ab.Get.mk; first | rfl | fail) | (apply Ab.Nm.mk; first | exact nrm_) | (apply Xg.s; constructor) | (apply Ab.asm; assumption) | rfl | infer_instance | decide))
      have hs5 : Sub b2 (b2.set (M + 2) (.cells true 5 [.int .i64 2, .int .i64 ses, .int .i64 0, .int .i64 0, .slice none 0 0])) := Sub.new (J4.sub.none (T4.none (Nat.le_refl _)))
      have hfr : Sl (b2.set (M + 2) (.cells true 5 [.int .i64 2, .int .i64 ses, .int .i64 0, .int .i64 0, .slice none 0 0])) 5 (RF (b2.set (M + 2) (.cells true 5 [.int .i64 2, .int .i64 ses, .int .i64 0, .int .i64 0, .slice none 0 0]))) (.slice (some ⟨M + 2, 0, none⟩) 1 1) [⟨2, ses, 0, 0, []⟩] := .blk At.hit rfl (Nat.le_refl _) (Cs.snoc (l := []) Cs.nil rfl ⟨_, rfl, .nil⟩)
      all_goals apply RetE.puR (b := b2.set (M + 2) (.cells true 5 [.int .i64 2, .int .i64 ses, .int .i64 0, .int .i64 0, .slice none 0 0]))
      case I => rw [← hs3, ← hs4]; (repeat' (first | assumption | (apply Ab.Inv.add; (case hs => exact (show Ab.Free _ _ from free_).eq); (case hn => exact Ab.nm_scal rfl)) | (apply Ab.Inv.boxP; (case p => (repeat' (first | assumption | (apply Ab.Prv.tell; (case hi => omega)) | apply Ab.Prv.set))))))
      case he => exact evr_
      case hg => rfl
      · exact (LWE.mk (y := ⟨⟨last', cur', prop', over'⟩, sd0, tk0⟩) (n := ⟨[⟨2, ses, 0, 0, []⟩], [], true, 0⟩) ⟨_, rfl, .nil⟩ ⟨_, _, rfl, hfr, .nil⟩).1
      · exact (LWE.mk (y := ⟨⟨last', cur', prop', over'⟩, sd0, tk0⟩) (n := ⟨[⟨2, ses, 0, 0, []⟩], [], true, 0⟩) ⟨_, rfl, .nil⟩ ⟨_, _, rfl, hfr, .nil⟩).2
  by_cases hk2 : kind = 2
  case pos =>
    have cw := fun s' : AHeap => welcome_ok' (s := s') (p := ses) hhm
    obtain ⟨⟨last', cur', prop', over'⟩, hh⟩ : ∃ h', h' = (welcome ⟨last, cur, prop, over⟩ ses) := ⟨_, rfl⟩
    rw [← hh] at cw
    unfold hv at cw
    obtain ⟨s4, hs4⟩ : ∃ s4 : AHeap, s4 = (s3.set (M + 1) (.cells true 1 [.int .i64 0, .int .i64 0, .int .i64 0, .bool false])).set (M + 1) (.cells true 1 [.int .i64 last', .int .i64 cur', .int .i64 prop', .bool over']) := ⟨_, rfl⟩
    have J4 : Inv s b s4 b2 := by rw [hs4]; exact (I4.boxT T3 (Nat.le_refl _)).boxP (Prv.mk' I4 (T3.none (Nat.le_refl _)))
    have R0 : Prv s s4 b2 N := by rw [hs4]; (repeat' (first | assumption | apply Ab.Prv.set))
    have R2 : Prv s s4 b2 (N + 2) := by rw [hs4]; (repeat' (first | assumption | apply Ab.Prv.set))
    have R3 : Prv s s4 b2 (N + 3) := by rw [hs4]; (repeat' (first | assumption | apply Ab.Prv.set))
    have RM : Prv s s4 b2 M := by rw [hs4]; (repeat' (first | assumption | apply Ab.Prv.set))

    cases hE : welE prop ses
    all_goals rw [hE] at cw
    · have hy : lhear ⟨⟨last, cur, prop, over⟩, ⟨base, sent, q, clock⟩, ⟨next, owes⟩⟩ ⟨kind, ses, seq, ack, p⟩ lim = (⟨⟨last, cur, prop, over⟩, ⟨base, sent, q, clock⟩, ⟨next, owes⟩⟩, nw0) := by
        unfold lhear; rw [if_neg hk, if_pos hk2]
        rw [if_neg (show ¬ welE prop ses = true by rw [hE]; decide)]
      rw [hy]
      (repeat' ((fail_if_success (apply Ab.O.allocA; (case hid => fail))); first | (apply Ab.K.ev; exact ev_) | (apply Ab.K.aops; first | (apply Xg.s; constructor) | apply Ab.S.guardG) | (apply Ab.K.aop; first | (first | (apply Ab.O.allocA M; (case hid => exact Top.free (T2.set (by omega)) (Nat.le_refl _)); (case hp => rfl)) | (apply Ab.O.allocA (M + 1); (case hid => first | exact T3.free (Nat.le_refl _) | exact (Top.new (T2.set (by omega))).free (Nat.le_refl _)); (case hp => rfl))) | (apply Og.s; constructor)) | (apply Ab.K.gk; first | (apply Xg.s; constructor) | (apply Ab.gY; case hw => assumption) | (apply Ab.gNT; case hw => assumption) | (apply Ab.gNF; case hw => assumption) | ((first | apply Ab.gD | apply Ab.gDN); all_goals (intro _ _; (first | contradiction | (exfalso; omega) | skip)))) | (apply Ab.K.aopsD; first | (apply Ab.D.q0t; (case hw => rfl); (case hot => rfl)) | (apply Ab.D.w1t; (case hw => rfl); (case hot => rfl)) | (apply Ab.D.q0; (case hw => rfl); intro _ _) | (apply Ab.D.w1n; (case hw => rfl); intro _ _) | (apply Ab.D.w2n; (case hw => rfl); intro _ _) | (apply Xg.s; constructor) | fail | apply Ab.D.guardG) | (apply Ab.K.aopsP; first | apply Ab.Pd.nil | (apply Ab.Pd.q; (case hi => rfl)) | (apply Ab.Pd.z; (case hi => rfl)) | (apply Ab.Pd.zU; (case hi => rfl); (case hd => rfl); (case hb => (exact ev_; done))) | (apply Ab.Pd.zG; (case hi => rfl); (case hd => rfl)) | (apply Ab.Pd.st; (case hi => rfl)) | (apply Ab.Pd.qU; (case hi => rfl); (case hd => rfl); (case hb => (exact ev_; done))) | (apply Ab.Pd.qG; (case hi => rfl); (case hd => rfl)) | (apply Ab.Pd.stU; (case hi => rfl); (case hd => rfl); (case hb => (exact ev_; done))) | (apply Ab.Pd.stG; (case hi => rfl); (case hd => rfl))) | (apply Ab.Pd.qs; intro _ _) | (apply Ab.Pd.nxE; (case hE => rfl)) | (apply Ab.Pd.nxR; (case hr => (repeat' (first | exact Ab.Sub.del _ _ | assumption | (apply Ab.Sub.setI; (case hn => simp)) | (apply Ab.Sub.setF; (case hn => exact free_)) | exact (Ab.Sub.del _ _).trans (by assumption))))) | exact ⟨rfl, rfl⟩ | (apply Ab.K.awp; first | (apply AWp.schedS (id := 16) [(0, 1), (1, 2), (2, 2), (3, 1), (4, 0), (5, 0), (6, 0)] [5, 6] [[], [0], [], [2], [0, 1], [0, 1, 2, 3, 4], [0, 1, 2, 3, 4, 5]] [N] (by kernel_rfl) (by kernel_rfl) (by kernel_rfl) rfl) | (apply AWp.schedS (id := 19) [(0, 1), (1, 1), (2, 0), (3, 0), (4, 0)] [3, 4] [[], [], [0], [0, 1, 2], [0, 1, 2, 3]] [N + 2, N + 3] (by kernel_rfl) (by kernel_rfl) (by kernel_rfl) rfl) | (apply Xg.s; constructor)) | (apply Ab.K.at_; exact at_) | (apply Ab.K.acall; first | assumption | exact cw _) | (apply Ab.Rg.mk; omega) | (apply Ab.Lt.mk; first | decide | (simp; done) | (simp; omega) | fail) | (apply Ab.Get.mk; first | rfl | fail) | (apply Ab.Nm.mk; first | exact nrm_) | (apply Xg.s; constructor) | (apply Ab.asm; assumption) | rfl | infer_instance | decide))
      all_goals apply RetE.puR (b := b2)
      case I => rw [← hs3, ← hs4]; (repeat' (first | assumption | (apply Ab.Inv.boxP; (case p => (repeat' (first | assumption | apply Ab.Prv.set))))))
      case he => exact evr_
      case hg => rfl
      · exact (LWE.mk (y := ⟨⟨last, cur, prop, over⟩, ⟨base, sent, q, clock⟩, ⟨next, owes⟩⟩) (n := nw0) ⟨_, rfl, hv2⟩ ⟨_, _, rfl, .nil, .nil⟩).1
      · exact (LWE.mk (y := ⟨⟨last, cur, prop, over⟩, ⟨base, sent, q, clock⟩, ⟨next, owes⟩⟩) (n := nw0) ⟨_, rfl, hv2⟩ ⟨_, _, rfl, .nil, .nil⟩).2
    · have hy : lhear ⟨⟨last, cur, prop, over⟩, ⟨base, sent, q, clock⟩, ⟨next, owes⟩⟩ ⟨kind, ses, seq, ack, p⟩ lim = (⟨⟨last', cur', prop', over'⟩, sd0, tk0⟩, ⟨[], [], false, ses⟩) := by
        unfold lhear; rw [if_neg hk, if_pos hk2]
        rw [if_pos hE, ← hh]
      rw [hy]
      (repeat' ((fail_if_success (apply Ab.O.allocA; (case hid => fail))); first | (apply Ab.K.ev; exact ev_) | (apply Ab.K.aops; first | (apply Xg.s; constructor) | apply Ab.S.guardG) | (apply Ab.K.aop; first | (first | (apply Ab.O.allocA M; (case hid => exact Top.free (T2.set (by omega)) (Nat.le_refl _)); (case hp => rfl)) | (apply Ab.O.allocA (M + 1); (case hid => first | exact T3.free (Nat.le_refl _) | exact (Top.new (T2.set (by omega))).free (Nat.le_refl _)); (case hp => rfl))) | (apply Og.s; constructor)) | (apply Ab.K.gk; first | (apply Xg.s; constructor) | (apply Ab.gY; case hw => assumption) | (apply Ab.gNT; case hw => assumption) | (apply Ab.gNF; case hw => assumption) | ((first | apply Ab.gD | apply Ab.gDN); all_goals (intro _ _; (first | contradiction | (exfalso; omega) | skip)))) | (apply Ab.K.aopsD; first | (apply Ab.D.q0t; (case hw => rfl); (case hot => rfl)) | (apply Ab.D.w1t; (case hw => rfl); (case hot => rfl)) | (apply Ab.D.q0; (case hw => rfl); intro _ _) | (apply Ab.D.w1n; (case hw => rfl); intro _ _) | (apply Ab.D.w2n; (case hw => rfl); intro _ _) | (apply Xg.s; constructor) | fail | apply Ab.D.guardG) | (apply Ab.K.aopsP; first | apply Ab.Pd.nil | (apply Ab.Pd.q; (case hi => rfl)) | (apply Ab.Pd.z; (case hi => rfl)) | (apply Ab.Pd.zU; (case hi => rfl); (case hd => rfl); (case hb => (exact ev_; done))) | (apply Ab.Pd.zG; (case hi => rfl); (case hd => rfl)) | (apply Ab.Pd.st; (case hi => rfl)) | (apply Ab.Pd.qU; (case hi => rfl); (case hd => rfl); (case hb => (exact ev_; done))) | (apply Ab.Pd.qG; (case hi => rfl); (case hd => rfl)) | (apply Ab.Pd.stU; (case hi => rfl); (case hd => rfl); (case hb => (exact ev_; done))) | (apply Ab.Pd.stG; (case hi => rfl); (case hd => rfl))) | (apply Ab.Pd.qs; intro _ _) | (apply Ab.Pd.nxE; (case hE => rfl)) | (apply Ab.Pd.nxR; (case hr => (repeat' (first | exact Ab.Sub.del _ _ | assumption | (apply Ab.Sub.setI; (case hn => simp)) | (apply Ab.Sub.setF; (case hn => exact free_)) | exact (Ab.Sub.del _ _).trans (by assumption))))) | exact ⟨rfl, rfl⟩ | (apply Ab.K.awp; first | (apply AWp.schedS (id := 16) [(0, 1), (1, 2), (2, 2), (3, 1), (4, 0), (5, 0), (6, 0)] [5, 6] [[], [0], [], [2], [0, 1], [0, 1, 2, 3, 4], [0, 1, 2, 3, 4, 5]] [N] (by kernel_rfl) (by kernel_rfl) (by kernel_rfl) rfl) | (apply AWp.schedS (id := 19) [(0, 1), (1, 1), (2, 0), (3, 0), (4, 0)] [3, 4] [[], [], [0], [0, 1, 2], [0, 1, 2, 3]] [N + 2, N + 3] (by kernel_rfl) (by kernel_rfl) (by kernel_rfl) rfl) | (apply Xg.s; constructor)) | (apply Ab.K.at_; exact at_) | (apply Ab.K.acall; first | assumption | exact cw _) | (apply Ab.Rg.mk; omega) | (apply Ab.Lt.mk; first | decide | (simp; done) | (simp; omega) | fail) | (apply Ab.Get.mk; first | rfl | fail) | (apply Ab.Nm.mk; first | exact nrm_) | (apply Xg.s; constructor) | (apply Ab.asm; assumption) | rfl | infer_instance | decide))
      all_goals apply RetE.puR (b := b2)
      case I => rw [← hs3, ← hs4]; (repeat' (first | assumption | (apply Ab.Inv.boxP; (case p => (repeat' (first | assumption | apply Ab.Prv.set))))))
      case he => exact evr_
      case hg => rfl
      · exact (LWE.mk (y := ⟨⟨last', cur', prop', over'⟩, sd0, tk0⟩) (n := ⟨[], [], false, ses⟩) ⟨_, rfl, .nil⟩ ⟨_, _, rfl, .nil, .nil⟩).1
      · exact (LWE.mk (y := ⟨⟨last', cur', prop', over'⟩, sd0, tk0⟩) (n := ⟨[], [], false, ses⟩) ⟨_, rfl, .nil⟩ ⟨_, _, rfl, .nil, .nil⟩).2
  by_cases hc : cur ≠ 0 ∧ ses = cur
  case neg =>
    have hy : lhear ⟨⟨last, cur, prop, over⟩, ⟨base, sent, q, clock⟩, ⟨next, owes⟩⟩ ⟨kind, ses, seq, ack, p⟩ lim = (⟨⟨last, cur, prop, over⟩, ⟨base, sent, q, clock⟩, ⟨next, owes⟩⟩, nw0) := by
      unfold lhear; rw [if_neg hk, if_neg hk2]; exact if_neg hc
    rw [hy]

    by_cases hc0 : cur = 0
    · (repeat' ((fail_if_success (apply Ab.O.allocA; (case hid => fail))); first | (apply Ab.K.ev; exact ev_) | (apply Ab.K.aops; first | (apply Xg.s; constructor) | apply Ab.S.guardG) | (apply Ab.K.aop; first | (apply Ab.O.allocA M; (case hid => exact Top.free (T2.set (by omega)) (Nat.le_refl _)); (case hp => rfl)) | (apply Og.s; constructor)) | (apply Ab.K.gk; first | (apply Xg.s; constructor) | (apply Ab.gY; case hw => assumption) | (apply Ab.gNT; case hw => assumption) | (apply Ab.gNF; case hw => assumption) | ((first | apply Ab.gD | apply Ab.gDN); all_goals (intro _ _; (first | contradiction | (exfalso; omega) | skip)))) | (apply Ab.K.aopsD; first | (apply Ab.D.q0t; (case hw => rfl); (case hot => rfl)) | (apply Ab.D.w1t; (case hw => rfl); (case hot => rfl)) | (apply Ab.D.q0; (case hw => rfl); intro _ _) | (apply Ab.D.w1n; (case hw => rfl); intro _ _) | (apply Ab.D.w2n; (case hw => rfl); intro _ _) | (apply Xg.s; constructor) | fail | apply Ab.D.guardG) | (apply Ab.K.aopsP; first | apply Ab.Pd.nil | (apply Ab.Pd.q; (case hi => rfl)) | (apply Ab.Pd.z; (case hi => rfl)) | (apply Ab.Pd.zU; (case hi => rfl); (case hd => rfl); (case hb => (exact ev_; done))) | (apply Ab.Pd.zG; (case hi => rfl); (case hd => rfl)) | (apply Ab.Pd.st; (case hi => rfl)) | (apply Ab.Pd.qU; (case hi => rfl); (case hd => rfl); (case hb => (exact ev_; done))) | (apply Ab.Pd.qG; (case hi => rfl); (case hd => rfl)) | (apply Ab.Pd.stU; (case hi => rfl); (case hd => rfl); (case hb => (exact ev_; done))) | (apply Ab.Pd.stG; (case hi => rfl); (case hd => rfl))) | (apply Ab.Pd.qs; intro _ _) | (apply Ab.Pd.nxE; (case hE => rfl)) | (apply Ab.Pd.nxR; (case hr => (repeat' (first | exact Ab.Sub.del _ _ | assumption | (apply Ab.Sub.setI; (case hn => simp)) | (apply Ab.Sub.setF; (case hn => exact free_)) | exact (Ab.Sub.del _ _).trans (by assumption))))) | exact ⟨rfl, rfl⟩ | (apply Ab.K.awp; first | (apply AWp.schedS (id := 16) [(0, 1), (1, 2), (2, 2), (3, 1), (4, 0), (5, 0), (6, 0)] [5, 6] [[], [0], [], [2], [0, 1], [0, 1, 2, 3, 4], [0, 1, 2, 3, 4, 5]] [N] (by kernel_rfl) (by kernel_rfl) (by kernel_rfl) rfl) | (apply AWp.schedS (id := 19) [(0, 1), (1, 1), (2, 0), (3, 0), (4, 0)] [3, 4] [[], [], [0], [0, 1, 2], [0, 1, 2, 3]] [N + 2, N + 3] (by kernel_rfl) (by kernel_rfl) (by kernel_rfl) rfl) | (apply Xg.s; constructor)) | (apply Ab.K.at_; exact at_) | (apply Ab.K.acall; first | assumption | fail) | (apply Ab.Rg.mk; omega) | (apply Ab.Lt.mk; first | decide | (simp; done) | (simp; omega) | fail) | (apply Ab.Get.mk; first | rfl | fail) | (apply Ab.Nm.mk; first | exact nrm_) | (apply Xg.s; constructor) | (apply Ab.asm; assumption) | rfl | infer_instance | decide))
      all_goals apply RetE.puR (b := b2)
      case I => rw [← hs3]; (repeat' (first | assumption | (apply Ab.Inv.boxP; (case p => (repeat' (first | assumption | apply Ab.Prv.set))))))
      case he => exact evr_
      case hg => rfl
      · exact (LWE.mk (y := ⟨⟨last, cur, prop, over⟩, ⟨base, sent, q, clock⟩, ⟨next, owes⟩⟩) (n := nw0) ⟨_, rfl, hv2⟩ ⟨_, _, rfl, .nil, .nil⟩).1
      · exact (LWE.mk (y := ⟨⟨last, cur, prop, over⟩, ⟨base, sent, q, clock⟩, ⟨next, owes⟩⟩) (n := nw0) ⟨_, rfl, hv2⟩ ⟨_, _, rfl, .nil, .nil⟩).2
    · have hc1 : ¬ ses = cur := fun e => hc ⟨hc0, e⟩
      (repeat' ((fail_if_success (apply Ab.O.allocA; (case hid => fail))); first | (apply Ab.K.ev; exact ev_) | (apply Ab.K.aops; first | (apply Xg.s; constructor) | apply Ab.S.guardG) | (apply Ab.K.aop; first | (apply Ab.O.allocA M; (case hid => exact Top.free (T2.set (by omega)) (Nat.le_refl _)); (case hp => rfl)) | (apply Og.s; constructor)) | (apply Ab.K.gk; first | (apply Xg.s; constructor) | (apply Ab.gY; case hw => assumption) | (apply Ab.gNT; case hw => assumption) | (apply Ab.gNF; case hw => assumption) | ((first | apply Ab.gD | apply Ab.gDN); all_goals (intro _ _; (first | contradiction | (exfalso; omega) | skip)))) | (apply Ab.K.aopsD; first | (apply Ab.D.q0t; (case hw => rfl); (case hot => rfl)) | (apply Ab.D.w1t; (case hw => rfl); (case hot => rfl)) | (apply Ab.D.q0; (case hw => rfl); intro _ _) | (apply Ab.D.w1n; (case hw => rfl); intro _ _) | (apply Ab.D.w2n; (case hw => rfl); intro _ _) | (apply Xg.s; constructor) | fail | apply Ab.D.guardG) | (apply Ab.K.aopsP; first | apply Ab.Pd.nil | (apply Ab.Pd.q; (case hi => rfl)) | (apply Ab.Pd.z; (case hi => rfl)) | (apply Ab.Pd.zU; (case hi => rfl); (case hd => rfl); (case hb => (exact ev_; done))) | (apply Ab.Pd.zG; (case hi => rfl); (case hd => rfl)) | (apply Ab.Pd.st; (case hi => rfl)) | (apply Ab.Pd.qU; (case hi => rfl); (case hd => rfl); (case hb => (exact ev_; done))) | (apply Ab.Pd.qG; (case hi => rfl); (case hd => rfl)) | (apply Ab.Pd.stU; (case hi => rfl); (case hd => rfl); (case hb => (exact ev_; done))) | (apply Ab.Pd.stG; (case hi => rfl); (case hd => rfl))) | (apply Ab.Pd.qs; intro _ _) | (apply Ab.Pd.nxE; (case hE => rfl)) | (apply Ab.Pd.nxR; (case hr => (repeat' (first | exact Ab.Sub.del _ _ | assumption | (apply Ab.Sub.setI; (case hn => simp)) | (apply Ab.Sub.setF; (case hn => exact free_)) | exact (Ab.Sub.del _ _).trans (by assumption))))) | exact ⟨rfl, rfl⟩ | (apply Ab.K.awp; first | (apply AWp.schedS (id := 16) [(0, 1), (1, 2), (2, 2), (3, 1), (4, 0), (5, 0), (6, 0)] [5, 6] [[], [0], [], [2], [0, 1], [0, 1, 2, 3, 4], [0, 1, 2, 3, 4, 5]] [N] (by kernel_rfl) (by kernel_rfl) (by kernel_rfl) rfl) | (apply AWp.schedS (id := 19) [(0, 1), (1, 1), (2, 0), (3, 0), (4, 0)] [3, 4] [[], [], [0], [0, 1, 2], [0, 1, 2, 3]] [N + 2, N + 3] (by kernel_rfl) (by kernel_rfl) (by kernel_rfl) rfl) | (apply Xg.s; constructor)) | (apply Ab.K.at_; exact at_) | (apply Ab.K.acall; first | assumption | fail) | (apply Ab.Rg.mk; omega) | (apply Ab.Lt.mk; first | decide | (simp; done) | (simp; omega) | fail) | (apply Ab.Get.mk; first | rfl | fail) | (apply Ab.Nm.mk; first | exact nrm_) | (apply Xg.s; constructor) | (apply Ab.asm; assumption) | rfl | infer_instance | decide))
      all_goals apply RetE.puR (b := b2)
      case I => rw [← hs3]; (repeat' (first | assumption | (apply Ab.Inv.boxP; (case p => (repeat' (first | assumption | apply Ab.Prv.set))))))
      case he => exact evr_
      case hg => rfl
      · exact (LWE.mk (y := ⟨⟨last, cur, prop, over⟩, ⟨base, sent, q, clock⟩, ⟨next, owes⟩⟩) (n := nw0) ⟨_, rfl, hv2⟩ ⟨_, _, rfl, .nil, .nil⟩).1
      · exact (LWE.mk (y := ⟨⟨last, cur, prop, over⟩, ⟨base, sent, q, clock⟩, ⟨next, owes⟩⟩) (n := nw0) ⟨_, rfl, hv2⟩ ⟨_, _, rfl, .nil, .nil⟩).2
  obtain ⟨hc0, hc1⟩ := hc
  have hy : lhear ⟨⟨last, cur, prop, over⟩, ⟨base, sent, q, clock⟩, ⟨next, owes⟩⟩ ⟨kind, ses, seq, ack, p⟩ lim = lheard ⟨⟨last, cur, prop, over⟩, ⟨base, sent, q, clock⟩, ⟨next, owes⟩⟩ ⟨kind, ses, seq, ack, p⟩ := by
    unfold lhear; rw [if_neg hk, if_neg hk2]; exact if_pos ⟨hc0, hc1⟩
  rw [hy]
  have c36 := heard36' (last := last) (cur := cur) (prop := prop) (over := over) (kind := kind) (ses := ses) (seq := seq) I4.sub hv2 hp2 hm.1.2.1 hm.1.2.2 hf.2.2.2.1 (by omega)
  (repeat' ((fail_if_success (apply Ab.O.allocA; (case hid => fail))); first | (apply Ab.K.ev; exact ev_) | (apply Ab.K.aops; first | (apply Xg.s; constructor) | apply Ab.S.guardG) | (apply Ab.K.aop; first | (first | (apply Ab.O.allocA M; (case hid => exact Top.free (T2.set (by omega)) (Nat.le_refl _)); (case hp => rfl)) | (apply Ab.O.callFE; (case ha => exact evs_); (case hc => rw [← hs3]; exact c36))) | (apply Og.s; constructor)) | (apply Ab.K.gk; first | (apply Xg.s; constructor) | (apply Ab.gY; case hw => assumption) | (apply Ab.gNT; case hw => assumption) | (apply Ab.gNF; case hw => assumption) | ((first | apply Ab.gD | apply Ab.gDN); all_goals (intro _ _; (first | contradiction | (exfalso; omega) | skip)))) | (apply Ab.K.aopsD; first | (apply Ab.D.q0t; (case hw => rfl); (case hot => rfl)) | (apply Ab.D.w1t; (case hw => rfl); (case hot => rfl)) | (apply Ab.D.q0; (case hw => rfl); intro _ _) | (apply Ab.D.w1n; (case hw => rfl); intro _ _) | (apply Ab.D.w2n; (case hw => rfl); intro _ _) | (apply Xg.s; constructor) | fail | apply Ab.D.guardG) | (apply Ab.K.aopsP; first | apply Ab.Pd.nil | (apply Ab.Pd.q; (case hi => rfl)) | (apply Ab.Pd.z; (case hi => rfl)) | (apply Ab.Pd.zU; (case hi => rfl); (case hd => rfl); (case hb => (exact ev_; done))) | (apply Ab.Pd.zG; (case hi => rfl); (case hd => rfl)) | (apply Ab.Pd.st; (case hi => rfl)) | (apply Ab.Pd.qU; (case hi => rfl); (case hd => rfl); (case hb => (exact ev_; done))) | (apply Ab.Pd.qG; (case hi => rfl); (case hd => rfl)) | (apply Ab.Pd.stU; (case hi => rfl); (case hd => rfl); (case hb => (exact ev_; done))) | (apply Ab.Pd.stG; (case hi => rfl); (case hd => rfl))) | (apply Ab.Pd.qs; intro _ _) | (apply Ab.Pd.nxE; (case hE => rfl)) | (apply Ab.Pd.nxR; (case hr => (repeat' (first | exact Ab.Sub.del _ _ | assumption | (apply Ab.Sub.setI; (case hn => simp)) | (apply Ab.Sub.setF; (case hn => exact free_)) | exact (Ab.Sub.del _ _).trans (by assumption))))) | exact ⟨rfl, rfl⟩ | (apply Ab.K.awp; first | (apply AWp.schedS (id := 16) [(0, 1), (1, 2), (2, 2), (3, 1), (4, 0), (5, 0), (6, 0)] [5, 6] [[], [0], [], [2], [0, 1], [0, 1, 2, 3, 4], [0, 1, 2, 3, 4, 5]] [N] (by kernel_rfl) (by kernel_rfl) (by kernel_rfl) rfl) | (apply AWp.schedS (id := 19) [(0, 1), (1, 1), (2, 0), (3, 0), (4, 0)] [3, 4] [[], [], [0], [0, 1, 2], [0, 1, 2, 3]] [N + 2, N + 3] (by kernel_rfl) (by kernel_rfl) (by kernel_rfl) rfl) | (apply Xg.s; constructor)) | (apply Ab.K.at_; exact at_) | (apply Ab.K.acall; first | assumption | fail) | (apply Ab.Rg.mk; omega) | (apply Ab.Lt.mk; first | decide | (simp; done) | (simp; omega) | fail) | (apply Ab.Get.mk; first | rfl | fail) | (apply Ab.Nm.mk; first | exact nrm_) | (apply Xg.s; constructor) | (apply Ab.asm; assumption) | rfl | infer_instance | decide))
  rintro r s7 ⟨b7, I7, c7, d7, rfl, ⟨v7, rfl, hv7⟩, ⟨vf7, vc7, rfl, hf7, hc7⟩⟩
  clear c36
  have I8 := I4.trans I7
  have P8 := Q0.call I7
  have P82 := Q2.call I7
  have P83 := Q3.call I7
  have P8M := QM.call I7
  have a8 := I7.kp.at_ d0
  have a81 := I7.kp.at_ d1
  have a82 := I7.kp.at_ d2
  have a83 := I7.kp.at_ d3
  have a8M := I7.kp.at_ dM
  obtain ⟨B7, c7, rfl, _⟩ := hv7.isl
  obtain ⟨B8, c8, rfl, _⟩ := hf7.isl
  obtain ⟨B9, c9, rfl, _⟩ := hc7.isl
  (repeat' ((fail_if_success (apply Ab.O.allocA; (case hid => fail))); first | (apply Ab.K.ev; exact ev_) | (apply Ab.K.aops; first | (apply Xg.s; constructor) | apply Ab.S.guardG) | (apply Ab.K.aop; first | (apply Og.s; constructor)) | (apply Ab.K.gk; first | (apply Xg.s; constructor) | (apply Ab.gY; case hw => assumption) | (apply Ab.gNT; case hw => assumption) | (apply Ab.gNF; case hw => assumption) | ((first | apply Ab.gD | apply Ab.gDN); all_goals (intro _ _; (first | contradiction | (exfalso; omega) | skip)))) | (apply Ab.K.aopsD; first | (apply Ab.D.q0t; (case hw => rfl); (case hot => rfl)) | (apply Ab.D.w1t; (case hw => rfl); (case hot => rfl)) | (apply Ab.D.q0; (case hw => rfl); intro _ _) | (apply Ab.D.w1n; (case hw => rfl); intro _ _) | (apply Ab.D.w2n; (case hw => rfl); intro _ _) | (apply Xg.s; constructor) | fail | apply Ab.D.guardG) | (apply Ab.K.aopsP; first | apply Ab.Pd.nil | (apply Ab.Pd.q; (case hi => rfl)) | (apply Ab.Pd.z; (case hi => rfl)) | (apply Ab.Pd.zU; (case hi => rfl); (case hd => rfl); (case hb => (exact ev_; done))) | (apply Ab.Pd.zG; (case hi => rfl); (case hd => rfl)) | (apply Ab.Pd.st; (case hi => rfl)) | (apply Ab.Pd.qU; (case hi => rfl); (case hd => rfl); (case hb => (exact ev_; done))) | (apply Ab.Pd.qG; (case hi => rfl); (case hd => rfl)) | (apply Ab.Pd.stU; (case hi => rfl); (case hd => rfl); (case hb => (exact ev_; done))) | (apply Ab.Pd.stG; (case hi => rfl); (case hd => rfl))) | (apply Ab.Pd.qs; intro _ _) | (apply Ab.Pd.nxE; (case hE => rfl)) | (apply Ab.Pd.nxR; (case hr => (repeat' (first | exact Ab.Sub.del _ _ | assumption | (apply Ab.Sub.setI; (case hn => simp)) | (apply Ab.Sub.setF; (case hn => exact free_)) | exact (Ab.Sub.del _ _).trans (by assumption))))) | exact ⟨rfl, rfl⟩ | (apply Ab.K.awp; first | (apply AWp.schedS (id := 16) [(0, 1), (1, 2), (2, 2), (3, 1), (4, 0), (5, 0), (6, 0)] [5, 6] [[], [0], [], [2], [0, 1], [0, 1, 2, 3, 4], [0, 1, 2, 3, 4, 5]] [N] (by kernel_rfl) (by kernel_rfl) (by kernel_rfl) rfl) | (apply AWp.schedS (id := 19) [(0, 1), (1, 1), (2, 0), (3, 0), (4, 0)] [3, 4] [[], [], [0], [0, 1, 2], [0, 1, 2, 3]] [N + 2, N + 3] (by kernel_rfl) (by kernel_rfl) (by kernel_rfl) rfl) | (apply Xg.s; constructor)) | (apply Ab.K.at_; exact at_) | (apply Ab.K.acall; first | assumption | fail) | (apply Ab.Rg.mk; omega) | (apply Ab.Lt.mk; first | decide | (simp; done) | (simp; omega) | fail) | (apply Ab.Get.mk; first | rfl | fail) | (apply Ab.Nm.mk; first | exact nrm_) | (apply Xg.s; constructor) | (apply Ab.asm; assumption) | rfl | infer_instance | decide))
  all_goals apply RetE.puR (b := b7)
  case I => (repeat' (first | assumption | (apply Ab.Inv.boxP; (case p => (repeat' (first | assumption | apply Ab.Prv.set))))))
  case he => exact evr_
  case hg => rfl
  · exact (LWE.mk ⟨_, rfl, hv7⟩ ⟨_, _, rfl, hf7, hc7⟩).1
  · exact (LWE.mk (y := (lheard ⟨⟨last, cur, prop, over⟩, ⟨base, sent, q, clock⟩, ⟨next, owes⟩⟩ ⟨kind, ses, seq, ack, p⟩).1) (n := (lheard ⟨⟨last, cur, prop, over⟩, ⟨base, sent, q, clock⟩, ⟨next, owes⟩⟩ ⟨kind, ses, seq, ack, p⟩).2) (e := 0) ⟨_, rfl, hv7⟩ ⟨_, _, rfl, hf7, hc7⟩).2
end Go.Proofs.Ytoiplbackllgfaa

/- lines: what is refused; the small question. -/
namespace Go.Proofs.Ytoiplbackllgfaa
set_option linter.unusedVariables false
set_option linter.unusedSimpArgs false
set_option linter.unusedSectionVars false
open Go.RowKit Ab HP
attribute [local irreducible] AOps AOpsD AOpsP QStep NX AOp AWp put nargs AHeap.set At Free ACall ACallE thenQ blockQ roundQ RetQ RetE Src Gr
set_option maxRecDepth 100000 in
set_option maxHeartbeats 4000000 in
theorem hearBad {s : AHeap} {last cur prop base sent clock next : Int} {over owes : Bool} {v : Value} {q : List (List Int)} {kind ses seq ack lim : Int} {w : Value} {p : List Int} (h : Qt s v q) (hq : q.length ≤ 1000000000) (hp : Bt s w p) (hx : ¬ (Ln.May ⟨⟨last, cur, prop, over⟩, ⟨base, sent, q, clock⟩, ⟨next, owes⟩⟩ ∧ (1 ≤ lim ∧ lim ≤ 2147483647) ∧ Fm.May ⟨kind, ses, seq, ack, p⟩)) :
    ACall Try.prog 10 [.agg (lna last cur prop over base sent v clock next owes).toArray, .agg #[.int .i64 kind, .int .i64 ses, .int .i64 seq, .int .i64 ack, w], .int .i64 lim] s (.tuple #[.agg ln00.toArray, .agg nw00.toArray, .int .i64 1]) s := by
  refine ACall.make Try.func10 rfl (by kernel_rfl) (by decide) rfl (fun N hN0 => ?_)
  have hT : Top N s := hN0
  obtain ⟨A, cap, rfl, hcap⟩ := h.isl
  obtain ⟨A2, cap2, rfl, hcap2⟩ := hp.isl
  obtain ⟨s1, hs1⟩ : ∃ s1 : AHeap, s1 = (((s.set N (.cells true 1 (lna last cur prop over base sent (.slice A q.length cap) clock next owes))).set (N + 1) (.cells true 1 [.int .i64 kind, .int .i64 ses, .int .i64 seq, .int .i64 ack, .slice A2 p.length cap2])).set (N + 2) (.cells true 1 ln00)).set (N + 3) (.cells true 1 nw00) := ⟨_, rfl⟩
  have F0 : Fr s1 s [] := by rw [hs1]; exact Fr.new (hT.free (by omega)) (Fr.new (hT.free (by omega)) (Fr.new (hT.free (by omega)) (Fr.new (hT.free (Nat.le_refl _)) (Fr.refl _ _))))
  have F1 : Fr ((s1.set (N + 2) (.cells true 1 ln00)).set (N + 3) (.cells true 1 nw00)) s [] := Fr.new (hT.free (by omega)) (Fr.new (hT.free (by omega)) F0)
  have hS : Sub s s1 := fun i c hc => F0 i (by simp) c hc
  have aN : At s1 N (.cells true 1 (lna last cur prop over base sent (.slice A q.length cap) clock next owes)) := by rw [hs1]; exact at_
  have aN1 : At s1 (N + 1) (.cells true 1 [.int .i64 kind, .int .i64 ses, .int .i64 seq, .int .i64 ack, .slice A2 p.length cap2]) := by rw [hs1]; exact at_
  have aN2 : At s1 (N + 2) (.cells true 1 ln00) := by rw [hs1]; exact at_
  have aN3 : At s1 (N + 3) (.cells true 1 nw00) := by rw [hs1]; exact At.hit
  have c14 := checkL' (s := s1) (last := last) (cur := cur) (prop := prop) (over := over) (base := base) (sent := sent) (clock := clock) (next := next) (owes := owes) (h.sub datQ hS) hq
  have c32 := checkF' (s := s1) (kind := kind) (ses := ses) (seq := seq) (ack := ack) (hp.bt hS)
  have c31 := count_dec (s := s1) (n := lim)

  by_cases hm : Ln.May ⟨⟨last, cur, prop, over⟩, ⟨base, sent, q, clock⟩, ⟨next, owes⟩⟩
  case neg =>
    rw [if_neg hm] at c14
    (repeat' (first | (apply Ab.K.ev; exact ev_) | (apply Ab.K.aops; first | (apply Xg.s; constructor) | apply Ab.S.guardG) | (apply Ab.K.aop; first | (first | (apply Ab.O.boxA N; (case hx => exact ev_); (case hid => exact frees_)) | (apply Ab.O.boxA (N + 1); (case hx => exact ev_); (case hid => exact frees_)) | (apply Ab.O.allocA (N + 2); (case hid => exact frees_); (case hp => rfl)) | (apply Ab.O.allocA (N + 3); (case hid => exact frees_); (case hp => rfl))) | (apply Og.s; constructor)) | (apply Ab.K.gk; first | (apply Xg.s; constructor) | (apply Ab.gY; case hw => assumption) | (apply Ab.gNT; case hw => assumption) | (apply Ab.gNF; case hw => assumption) | ((first | apply Ab.gD | apply Ab.gDN); all_goals (intro _ _; (first | contradiction | (exfalso; omega) | skip)))) | (apply Ab.K.awp; first | (apply Xg.s; constructor)) | (apply Ab.K.at_; exact at_) | (apply Ab.K.acall; first | assumption | first | exact c32 | exact c31 | (rw [← hs1]; exact c14)) | (apply Ab.Rg.mk; omega) | (apply Ab.Lt.mk; first | decide | (simp; done) | (simp; omega) | fail) | (apply Ab.Get.mk; first | rfl | fail) | (apply Ab.Nm.mk; first | exact nrm_) | (apply Xg.s; constructor) | (apply Ab.asm; assumption) | rfl | infer_instance | decide))
    all_goals ((first | apply RetQ.ret | apply RetQ.normal); (case he => exact evr_); (case hg => rfl))
    all_goals first | rfl | exact Keeps.fr F1 (plR.nm rfl)
  rw [if_pos hm] at c14
  by_cases hli : 1 ≤ lim ∧ lim ≤ 2147483647
  case neg =>
    rw [decide_eq_false hli] at c31
    (repeat' (first | (apply Ab.K.ev; exact ev_) | (apply Ab.K.aops; first | (apply Xg.s; constructor) | apply Ab.S.guardG) | (apply Ab.K.aop; first | (first | (apply Ab.O.boxA N; (case hx => exact ev_); (case hid => exact frees_)) | (apply Ab.O.boxA (N + 1); (case hx => exact ev_); (case hid => exact frees_)) | (apply Ab.O.allocA (N + 2); (case hid => exact frees_); (case hp => rfl)) | (apply Ab.O.allocA (N + 3); (case hid => exact frees_); (case hp => rfl))) | (apply Og.s; constructor)) | (apply Ab.K.gk; first | (apply Xg.s; constructor) | (apply Ab.gY; case hw => assumption) | (apply Ab.gNT; case hw => assumption) | (apply Ab.gNF; case hw => assumption) | ((first | apply Ab.gD | apply Ab.gDN); all_goals (intro _ _; (first | contradiction | (exfalso; omega) | skip)))) | (apply Ab.K.awp; first | (apply Xg.s; constructor)) | (apply Ab.K.at_; exact at_) | (apply Ab.K.acall; first | assumption | first | exact c32 | exact c31 | (rw [← hs1]; exact c14)) | (apply Ab.Rg.mk; omega) | (apply Ab.Lt.mk; first | decide | (simp; done) | (simp; omega) | fail) | (apply Ab.Get.mk; first | rfl | fail) | (apply Ab.Nm.mk; first | exact nrm_) | (apply Xg.s; constructor) | (apply Ab.asm; assumption) | rfl | infer_instance | decide))
    all_goals ((first | apply RetQ.ret | apply RetQ.normal); (case he => exact evr_); (case hg => rfl))
    all_goals first | rfl | exact Keeps.fr F1 (plR.nm rfl)
  rw [decide_eq_true hli] at c31
  rw [if_neg (fun e => hx ⟨hm, hli, e⟩)] at c32
  (repeat' (first | (apply Ab.K.ev; exact ev_) | (apply Ab.K.aops; first | (apply Xg.s; constructor) | apply Ab.S.guardG) | (apply Ab.K.aop; first | (first | (apply Ab.O.boxA N; (case hx => exact ev_); (case hid => exact frees_)) | (apply Ab.O.boxA (N + 1); (case hx => exact ev_); (case hid => exact frees_)) | (apply Ab.O.allocA (N + 2); (case hid => exact frees_); (case hp => rfl)) | (apply Ab.O.allocA (N + 3); (case hid => exact frees_); (case hp => rfl))) | (apply Og.s; constructor)) | (apply Ab.K.gk; first | (apply Xg.s; constructor) | (apply Ab.gY; case hw => assumption) | (apply Ab.gNT; case hw => assumption) | (apply Ab.gNF; case hw => assumption) | ((first | apply Ab.gD | apply Ab.gDN); all_goals (intro _ _; (first | contradiction | (exfalso; omega) | skip)))) | (apply Ab.K.awp; first | (apply Xg.s; constructor)) | (apply Ab.K.at_; exact at_) | (apply Ab.K.acall; first | assumption | first | exact c32 | exact c31 | (rw [← hs1]; exact c14)) | (apply Ab.Rg.mk; omega) | (apply Ab.Lt.mk; first | decide | (simp; done) | (simp; omega) | fail) | (apply Ab.Get.mk; first | rfl | fail) | (apply Ab.Nm.mk; first | exact nrm_) | (apply Xg.s; constructor) | (apply Ab.asm; assumption) | rfl | infer_instance | decide))
  all_goals ((first | apply RetQ.ret | apply RetQ.normal); (case he => exact evr_); (case hg => rfl))
  all_goals first | rfl | exact Keeps.fr F1 (plR.nm rfl)
/-- Is nothing told but an error? -/
theorem bad15 {s : AHeap} : ACall Try.prog 15 [.agg ln00.toArray, .agg nw00.toArray, .int .i64 1] s (.bool true) s := by
  refine ACall.make Try.func15 rfl (by kernel_rfl) (by decide) rfl (fun N hN0 => ?_)
  have hT : Top N s := hN0
  have c17 : ∀ s : AHeap, ACall Try.prog 17 [.agg ln00.toArray, .agg ln00.toArray] s (.bool true) s := fun s => by
    have := same17 (s := s) (x := ⟨⟨0, 0, 0, false⟩, sd0, tk0⟩) (y := ⟨⟨0, 0, 0, false⟩, sd0, tk0⟩) (RL.h _ s) (RL.h _ s) (by simp [sd0]) (by simp [sd0])
    rw [decide_eq_true rfl] at this; exact this
  have c18 : ∀ s : AHeap, ACall Try.prog 18 [.agg nw00.toArray, .agg nw00.toArray] s (.bool true) s := fun s => by
    have := news18 (s := s) (RW.zero s) (RW.zero s) (by simp [nw0]) (by simp [nw0]) (by simp [nw0]) (by simp [nw0])
    rw [decide_eq_true rfl] at this; exact this
  (repeat' (first | (apply Ab.K.ev; exact ev_) | (apply Ab.K.aops; first | (apply Xg.s; constructor) | apply Ab.S.guardG) | (apply Ab.K.aop; first | (first | (apply Ab.O.boxA N; (case hx => exact ev_); (case hid => exact frees_)) | (apply Ab.O.boxA (N + 1); (case hx => exact ev_); (case hid => exact frees_))) | (apply Og.s; constructor)) | (apply Ab.K.gk; first | (apply Xg.s; constructor) | (apply Ab.gY; case hw => assumption) | (apply Ab.gNT; case hw => assumption) | (apply Ab.gNF; case hw => assumption) | ((first | apply Ab.gD | apply Ab.gDN); all_goals (intro _ _; (first | contradiction | (exfalso; omega) | skip)))) | (apply Ab.K.awp; first | (apply Xg.s; constructor)) | (apply Ab.K.at_; exact at_) | (apply Ab.K.acall; first | assumption | first | exact c17 _ | exact c18 _) | (apply Ab.Rg.mk; omega) | (apply Ab.Lt.mk; first | decide | (simp; done) | (simp; omega) | fail) | (apply Ab.Get.mk; first | rfl | fail) | (apply Ab.Nm.mk; first | exact nrm_) | (apply Xg.s; constructor) | (apply Ab.asm; assumption) | rfl | infer_instance | decide))
  all_goals ((first | apply RetQ.ret | apply RetQ.normal); (case he => exact evr_); (case hg => rfl))
  all_goals first | rfl | (apply Keeps.fr; (case h => exact fr_); (case hv => exact plR.nm rfl))
set_option maxHeartbeats 4000000 in
theorem awake9 {s : AHeap} : ACall Try.prog 9 [] s (.bool true) s := by
  refine ACall.make Try.func9 rfl (by kernel_rfl) (by decide) rfl (fun N hN0 => ?_)
  have hT : Top N s := hN0
  have hz : Sub (fun _ => none) s := fun i c h => by cases h
  obtain ⟨s1, hs1⟩ : ∃ s1 : AHeap, s1 = (((s.set N (.cells true 1 ln00)).set N (.cells true 1 (lna 3 3 0 false 0 0 (.slice none 0 0) 0 0 false))).set (N + 1) (.cells true 1 [.int .u8 120])).set (N + 1) (.cells false 1 [.int .u8 120]) := ⟨_, rfl⟩
  have hb : Sub (AHeap.set (fun _ => none) (N + 1) (.cells false 1 [.int .u8 120])) s1 := fun i c h => by
    by_cases e : i = N + 1
    · subst e; rw [AHeap.set_same] at h; rw [hs1, AHeap.set_same]; exact h
    · rw [AHeap.set_other _ _ e] at h; cases h
  have T1 : Top (N + 2) s1 := by rw [hs1]; exact ((((hT.new.set (by omega)).new).set (by omega)))
  have F1 : Fr s1 s [] := by rw [hs1]; exact Fr.new (hT.free (by omega)) (Fr.new (hT.free (by omega)) (Fr.new (hT.free (by omega)) (Fr.new (hT.free (Nat.le_refl _)) (Fr.refl _ _))))
  have aN : At s1 N (.cells true 1 (lna 3 3 0 false 0 0 (.slice none 0 0) 0 0 false)) := by rw [hs1]; exact at_
  have hp : Bt (AHeap.set (fun _ => none) (N + 1) (.cells false 1 [.int .u8 120])) (.slice (some ⟨N + 1, 0, none⟩) 1 1) [120] := .blk At.hit rfl (Nat.le_refl _) (RB.of (l := [120]) (by intro x hx; rw [List.mem_singleton.1 hx]; omega))
  have hm : Ln.May ⟨⟨3, 3, 0, false⟩, ⟨0, 0, [], 0⟩, ⟨0, false⟩⟩ := by decide
  have c1 := hear10' (lim := 9) hb (.nil : Qt _ (.slice none 0 0) []) hp hm (show Fm.May ⟨3, 3, 0, 0, [120]⟩ by decide) (by omega)
  (repeat' (first | (apply Ab.K.ev; exact ev_) | (apply Ab.K.aops; first | (apply Xg.s; constructor) | apply Ab.S.guardG) | (apply Ab.K.aop; first | (first | (apply Ab.O.allocA N; (case hid => exact hT.free (Nat.le_refl _)); (case hp => rfl)) | (apply Ab.O.build1 (N + 1); (case hx => exact ev_); (case hv => exact ⟨rfl, rfl⟩); (case hz => exact ⟨rfl, rfl⟩); (case hid => exact free_)) | (apply Ab.O.markK; (case hx => exact ev_); (case hs => exact at_); (case hn => decide)) | (apply Ab.O.callFE; (case ha => exact evs_); (case hc => rw [← hs1]; exact c1))) | (apply Og.s; constructor)) | (apply Ab.K.gk; first | (apply Xg.s; constructor) | (apply Ab.gY; case hw => assumption) | (apply Ab.gNT; case hw => assumption) | (apply Ab.gNF; case hw => assumption) | ((first | apply Ab.gD | apply Ab.gDN); all_goals (intro _ _; (first | contradiction | (exfalso; omega) | skip)))) | (apply Ab.K.awp; first | (apply Xg.s; constructor)) | (apply Ab.K.at_; exact at_) | (apply Ab.K.acall; first | assumption | fail) | (apply Ab.Rg.mk; omega) | (apply Ab.Lt.mk; first | decide | (simp; done) | (simp; omega) | fail) | (apply Ab.Get.mk; first | rfl | fail) | (apply Ab.Nm.mk; first | exact nrm_) | (apply Xg.s; constructor) | (apply Ab.asm; assumption) | rfl | infer_instance | decide))
  rintro r s2 ⟨b2, I2, cc, dd, rfl, ⟨v2, rfl, hv2⟩, ⟨vf2, vc2, rfl, hf2, hc2⟩⟩
  clear c1
  have e1 : (lhear ⟨⟨3, 3, 0, false⟩, ⟨0, 0, [], 0⟩, ⟨0, false⟩⟩ ⟨3, 3, 0, 0, [120]⟩ 9).2.came = [[120]] := by decide
  rw [e1] at hc2
  obtain ⟨o, off, c, sp, rw', cs, u, rfl, _, ha, hg, hu⟩ := hc2.qelt (i := 0) rfl
  obtain ⟨Bf, cf, rfl, _⟩ := hf2.isl
  obtain ⟨Bv, cv, rfl, _⟩ := hv2.isl
  obtain ⟨M, hM, T2⟩ := I2.fin _ T1
  have aN2 := I2.kp.at_ aN
  have ao := I2.sub.at_ ha
  have hoM : o < M := T2.lt ao
  obtain ⟨s3, hs3⟩ : ∃ s3 : AHeap, s3 = (((((s2.set M (.cells true 1 ln00)).set (M + 1) (.cells true 1 nw00)).set M (.cells true 1 (lnl (lhear ⟨⟨3, 3, 0, false⟩, ⟨0, 0, [], 0⟩, ⟨0, false⟩⟩ ⟨3, 3, 0, 0, [120]⟩ 9).1.h (lhear ⟨⟨3, 3, 0, false⟩, ⟨0, 0, [], 0⟩, ⟨0, false⟩⟩ ⟨3, 3, 0, 0, [120]⟩ 9).1.s (.slice Bv (lhear ⟨⟨3, 3, 0, false⟩, ⟨0, 0, [], 0⟩, ⟨0, false⟩⟩ ⟨3, 3, 0, 0, [120]⟩ 9).1.s.q.length cv) (lhear ⟨⟨3, 3, 0, false⟩, ⟨0, 0, [], 0⟩, ⟨0, false⟩⟩ ⟨3, 3, 0, 0, [120]⟩ 9).1.t))).set (M + 1) (.cells true 1 [.slice Bf (lhear ⟨⟨3, 3, 0, false⟩, ⟨0, 0, [], 0⟩, ⟨0, false⟩⟩ ⟨3, 3, 0, 0, [120]⟩ 9).2.frames.length cf, .slice (some ⟨o, off, sp⟩) ([[120]] : List (List Int)).length c, .bool (lhear ⟨⟨3, 3, 0, false⟩, ⟨0, 0, [], 0⟩, ⟨0, false⟩⟩ ⟨3, 3, 0, 0, [120]⟩ 9).2.down, .int .i64 (lhear ⟨⟨3, 3, 0, false⟩, ⟨0, 0, [], 0⟩, ⟨0, false⟩⟩ ⟨3, 3, 0, 0, [120]⟩ 9).2.ses])).set (M + 2) (.cells true 1 [.int .u8 120])).set (M + 2) (.cells false 1 [.int .u8 120]) := ⟨_, rfl⟩
  have hb3 : Sub (AHeap.set (fun _ => none) (M + 2) (.cells false 1 [.int .u8 120])) s3 := fun i c h => by
    by_cases e : i = M + 2
    · subst e; rw [AHeap.set_same] at h; rw [hs3, AHeap.set_same]; exact h
    · rw [AHeap.set_other _ _ e] at h; cases h
  have T3 : Top (M + 3) s3 := by rw [hs3]; exact (Top.new (Top.set (Top.set T2.new.new (by omega)) (by omega))).set (by omega)
  have F2 : Fr s2 s [] := fun i hi c hc => I2.kp i c (F1 i hi c hc)
  have F3 : Fr s3 s [] := by
    rw [hs3]
    exact Fr.new (hT.free (by omega)) (Fr.new (hT.free (by omega)) (Fr.new (hT.free (by omega)) (Fr.new (hT.free (by omega)) (Fr.new (hT.free (by omega)) (Fr.new (hT.free (by omega)) F2)))))
  have aN3 : At s3 N (.cells true 1 (lna 3 3 0 false 0 0 (.slice none 0 0) 0 0 false)) := by rw [hs3]; exact at_
  have ao3 : At s3 o (.cells rw' 1 cs) := by rw [hs3]; exact at_
  have aM3 : At s3 (M + 1) (.cells true 1 [.slice Bf (lhear ⟨⟨3, 3, 0, false⟩, ⟨0, 0, [], 0⟩, ⟨0, false⟩⟩ ⟨3, 3, 0, 0, [120]⟩ 9).2.frames.length cf, .slice (some ⟨o, off, sp⟩) ([[120]] : List (List Int)).length c, .bool (lhear ⟨⟨3, 3, 0, false⟩, ⟨0, 0, [], 0⟩, ⟨0, false⟩⟩ ⟨3, 3, 0, 0, [120]⟩ 9).2.down, .int .i64 (lhear ⟨⟨3, 3, 0, false⟩, ⟨0, 0, [], 0⟩, ⟨0, false⟩⟩ ⟨3, 3, 0, 0, [120]⟩ 9).2.ses]) := by rw [hs3]; exact at_
  have hp3 : Bt (AHeap.set (fun _ => none) (M + 2) (.cells false 1 [.int .u8 120])) (.slice (some ⟨M + 2, 0, none⟩) 1 1) [120] := .blk At.hit rfl (Nat.le_refl _) (RB.of (l := [120]) (by intro x hx; rw [List.mem_singleton.1 hx]; omega))
  have hm3 : Ln.May ⟨⟨3, 3, 0, false⟩, ⟨0, 0, [], 0⟩, ⟨0, false⟩⟩ := by decide
  have c2 := hear10' (lim := 9) hb3 (.nil : Qt _ (.slice none 0 0) []) hp3 hm3 (show Fm.May ⟨3, 2, 0, 0, [120]⟩ by decide) (by omega)
  have hu3 : Bt s3 u [120] := hu.bt (fun i c hc => by
    have h2 := I2.sub i c hc
    rw [hs3, AHeap.set_set]
    have hi : i < M := T2.lt (At.var h2)
    rw [AHeap.set_other _ _ (by omega), AHeap.set_other _ _ (by omega), AHeap.set_other _ _ (by omega), AHeap.set_other _ _ (by omega), AHeap.set_other _ _ (by omega)]
    exact h2)
  (repeat' (first | (apply Ab.K.ev; exact ev_) | (apply Ab.K.aops; first | (apply Xg.s; constructor) | apply Ab.S.guardG) | (apply Ab.K.aop; first | (first | (apply Ab.O.allocA M; (case hid => exact T2.free (Nat.le_refl _)); (case hp => rfl)) | (apply Ab.O.allocA (M + 1); (case hid => exact T2.new.free (Nat.le_refl _)); (case hp => rfl)) | (apply Ab.O.build1 (M + 2); (case hx => exact ev_); (case hv => exact ⟨rfl, rfl⟩); (case hz => exact ⟨rfl, rfl⟩); (case hid => exact free_)) | (apply Ab.O.markK; (case hx => exact ev_); (case hs => exact at_); (case hn => decide)) | (apply Ab.O.callFE; (case ha => exact evs_); (case hc => rw [← hs3]; exact c2))) | (apply Og.s; constructor)) | (apply Ab.K.gk; first | (apply Xg.s; constructor) | (apply Ab.gY; case hw => assumption) | (apply Ab.gNT; case hw => assumption) | (apply Ab.gNF; case hw => assumption) | ((first | apply Ab.gD | apply Ab.gDN); all_goals (intro _ _; (first | contradiction | (exfalso; omega) | skip)))) | (apply Ab.K.awp; first | (apply Xg.s; constructor)) | (apply Ab.K.at_; exact at_) | (apply Ab.K.acall; first | assumption | fail) | (apply Ab.Rg.mk; omega) | (apply Ab.Lt.mk; first | decide | (simp; done) | (simp; omega) | fail) | (apply Ab.Get.mk; first | rfl | fail) | (apply Ab.Nm.mk; first | exact nrm_) | (apply Xg.s; constructor) | (apply Ab.asm; assumption) | rfl | infer_instance | decide))
  rintro r s4 ⟨b4, I4, cc, dd, rfl, ⟨v4, rfl, hv4⟩, ⟨vf4, vc4, rfl, hf4, hc4⟩⟩
  clear c2
  have e2 : (lhear ⟨⟨3, 3, 0, false⟩, ⟨0, 0, [], 0⟩, ⟨0, false⟩⟩ ⟨3, 2, 0, 0, [120]⟩ 9).2.came = [] := by decide
  rw [e2] at hc4
  obtain ⟨Bc, c4, rfl, _⟩ := hc4.isl
  obtain ⟨Bf4, cf4, rfl, _⟩ := hf4.isl
  obtain ⟨Bv4, cv4, rfl, _⟩ := hv4.isl
  obtain ⟨M4, hM4, T4⟩ := I4.fin _ T3
  have ao4 := I4.kp.at_ ao3
  have aM4 := I4.kp.at_ aM3
  have F4 : Fr s4 s [] := fun i hi c hc => I4.kp i c (F3 i hi c hc)
  have hu4 := hu3.bt I4.kp
  have hg' : cs[off + ((0 : Int).toNat) * 1]? = some u := hg
  have hst : ∀ t' : AHeap, Sub s4 t' → Bt t' u [120] := fun t' h => hu4.bt h
  have hlit : decide ((strOf [120]).data.toList = (ByteArray.mk #[120]).data.toList) = true := by decide



  (repeat' (first | (apply Ab.K.ev; exact ev_) | (apply Ab.K.aops; first | (apply Xg.s; constructor) | apply Ab.S.guardG) | (apply Ab.K.aop; first | (first | (apply Ab.O.allocA M4; (case hid => exact T4.free (Nat.le_refl _)); (case hp => rfl)) | (apply Ab.O.allocA (M4 + 1); (case hid => exact T4.new.free (Nat.le_refl _)); (case hp => rfl)) | (apply Ab.O.strB; (case hx => exact ev_); (case h => exact hst _ (fun i c hc => by have hi : i < M4 := T4.lt (At.var hc); rw [AHeap.set_other _ _ (by omega), AHeap.set_other _ _ (by omega), AHeap.set_other _ _ (by omega), AHeap.set_other _ _ (by omega)]; exact hc)))) | (apply Ab.O.strEq; (case hx => exact ev_); (case hy => exact ev_); (case h => rw [hlit])) | (apply Og.s; constructor)) | (apply Ab.K.gk; first | (apply Xg.s; constructor) | (apply Ab.gY; case hw => assumption) | (apply Ab.gNT; case hw => assumption) | (apply Ab.gNF; case hw => assumption) | ((first | apply Ab.gD | apply Ab.gDN); all_goals (intro _ _; (first | contradiction | (exfalso; omega) | skip)))) | (apply Ab.K.awp; first | (apply Xg.s; constructor)) | (apply Ab.K.at_; exact at_) | (apply Ab.K.acall; first | assumption | fail) | (apply Ab.Rg.mk; (first | omega | decide)) | (apply Ab.Lt.mk; first | decide | (simp; done) | (simp; omega) | fail) | (apply Ab.Get.mk; first | rfl | (first | rfl | exact hg')) | (apply Ab.Nm.mk; first | exact nrm_) | (apply Xg.s; constructor) | (apply Ab.asm; assumption) | rfl | infer_instance | decide))
  all_goals ((first | apply RetQ.ret | apply RetQ.normal); (case he => exact evr_); (case hg => rfl))
  · rfl
  · exact Keeps.fr (Fr.new (hT.free (by omega)) (Fr.new (hT.free (by omega)) (Fr.new (hT.free (by omega)) (Fr.new (hT.free (by omega)) F4)))) (plR.nm rfl)
end Go.Proofs.Ytoiplbackllgfaa
