/- hand: the document's act, whatever it is. -/
import Derived.Test.YtdjbpnpfgabdjaaHT
import Derived.Test.YtdjbpnpfgabdjaaHG
namespace Go.Proofs.Ytdjbpnpfgabdjaa
set_option linter.unusedVariables false
set_option linter.unusedSimpArgs false
set_option linter.unusedSectionVars false
open Go.RowKit Ab HP
attribute [local irreducible] AOps AOpsD AOp AWp put nargs AHeap.set At Free ACall thenQ blockQ roundQ RetQ Src hello welcome close

theorem rdo_none {s : AHeap} {limit kind a b n w : Int} {x : Pr} {v0 v1 : Value} {o0 o1 : Option Nat} (h0 : WAt s 2 v0 o0 x.w0.length (nc x.w0)) (h1 : WAt s 2 v1 o1 x.w1.length (nc x.w1)) (ha : a ≠ 1 ∧ a ≠ 2) :
    ACall Try.prog 22 [.agg (pc limit x.h0 x.h1 v0 v1).toArray, .agg #[.int .i64 kind, .int .i64 a, .int .i64 b, .int .i64 n, .int .i64 w]] s (.agg (pc limit x.h0 x.h1 v0 v1).toArray) s := by
  have hnm : nmR (fun i => (s i).isSome = true) (.agg (pc limit x.h0 x.h1 v0 v1).toArray) := pc_plain_nm (h0.nm h0.some) (h1.nm h1.some)
  refine ACall.make Try.func22 rfl (by kernel_rfl) (by decide) rfl (fun N hN => ?_)
  have hT : Top N s := hN
  (repeat' ((fail_if_success fail); (first | (apply Ab.K.ev; first | exact Ev.hit | (apply Ev.missB; case h => rfl) | exact Ev.const | exact Ev.func | apply Ev.non | assumption | (apply Ev.arg; rfl)) | (apply Ab.K.aops; first | apply Ab.S.op | apply Ab.S.nil | apply Ab.S.guardG) | (apply Ab.K.aop; first | (first | (apply Ab.O.boxA (N + 0); (case hx => (repeat' (first | exact Ev.hit | (apply Ev.missB; case h => rfl) | exact Ev.const | exact Ev.func | apply Ev.non | assumption | (apply Ev.arg; rfl)))); (case hid => (repeat' (first | assumption | exact Top.free hT (by omega) | (apply Free.miss; case h => omega))))) | (apply Ab.O.boxA (N + 1); (case hx => (repeat' (first | exact Ev.hit | (apply Ev.missB; case h => rfl) | exact Ev.const | exact Ev.func | apply Ev.non | assumption | (apply Ev.arg; rfl)))); (case hid => (repeat' (first | assumption | exact Top.free hT (by omega) | (apply Free.miss; case h => omega))))) | (apply Ab.O.allocA (N + 2); (case hid => (repeat' (first | assumption | exact Top.free hT (by omega) | (apply Free.miss; case h => omega)))); (case hp => rfl)) | (apply Ab.O.allocA (N + 3); (case hid => (repeat' (first | assumption | exact Top.free hT (by omega) | (apply Free.miss; case h => omega)))); (case hp => rfl))) | apply Ab.O.move | apply Ab.O.assign | apply Ab.O.fieldAddr | apply Ab.O.pickG | (apply Ab.Qz.ld; (case ha => rfl)) | (apply Ab.Qz.lda; (case ha => rfl)) | (apply Ab.Qz.st; (case ha => rfl); (case hz => rfl)) | (apply Ab.Qz.sta; (case ha => rfl)) | apply Ab.O.addG | apply Ab.O.subG | apply Ab.O.mulG | apply Ab.O.remG | apply Ab.O.intG | apply Ab.O.ptrEq | apply Ab.O.ptrNe | apply Ab.O.slcEq | apply Ab.O.slcNe | apply Ab.O.boolEq | apply Ab.O.boolNe | apply Ab.O.strEq | apply Ab.O.strNe | fail | apply Ab.O.len | apply Ab.O.lenStr | apply Ab.O.minG | apply Ab.O.maxG | apply Ab.Qz.ck | (apply Ab.O.clear0; (case hx => (repeat' (first | exact Ev.hit | (apply Ev.missB; case h => rfl) | exact Ev.const | exact Ev.func | apply Ev.non | assumption | (apply Ev.arg; rfl))))) | (apply Ab.O.clearG; (case hz => exact ⟨rfl, rfl⟩)) | apply Ab.O.nilCheck | apply Ab.O.not | apply Ab.O.indexG | apply Ab.O.indexArrG | apply Ab.Qz.xt | apply Ab.O.convInt | (apply Ab.O.fieldV; (case hx => (repeat' (first | exact Ev.hit | (apply Ev.missB; case h => rfl) | exact Ev.const | exact Ev.func | apply Ev.non | assumption | (apply Ev.arg; rfl)))); (case hv => rfl)) | (apply Ab.Qz.bs; (case hz => rfl)) | (apply Ab.Qz.br; (case hz => rfl)) | apply Ab.O.sliceLH | apply Ab.O.sliceL | apply Ab.O.sliceH | apply Ab.O.sliceLHM) | (apply Ab.K.gk; first | apply Ab.gTT | apply Ab.gFF | apply Ab.gTF | apply Ab.gFT | (apply Ab.gY; case hw => assumption) | (apply Ab.gNT; case hw => assumption) | (apply Ab.gNF; case hw => assumption) | ((first | apply Ab.gD | apply Ab.gDN); all_goals (intro _ _; (first | (exfalso; omega) | skip)))) | (apply Ab.K.awp; first | apply AWp.seqR | apply AWp.seq | apply AWp.block | apply AWp.region | apply AWp.skip | apply AWp.ret | apply AWp.exit | apply Ab.X.condG | fail) | (apply Ab.K.at_; first | exact At.hit | (apply Ab.asm; assumption) | (apply At.var; assumption) | (apply At.agree; (case ha => assumption); (case hn => (first | exact List.not_mem_nil | (simp [others, unordB, cC]; done) | (simp [others, unordB, cC]; omega)))) | (apply At.miss; case h => omega)) | (apply Ab.K.acall; first | assumption | fail) | exact Evs.nil | apply Evs.cons | exact EvP.nil | apply EvP.cons | exact EvO.none | apply EvO.some | apply Ab.pk | (apply Ab.Rg.mk; omega) | (apply Ab.Lt.mk; first | decide | (simp; done) | (simp; omega) | fail) | (apply Ab.Get.mk; first | rfl | fail) | (apply Ab.Nm.mk; first | fail | exact Ab.Qz.tk rfl | exact Ab.Qz.sp rfl | ((try simp only [Ab.splice, Value.cells, List.toList_toArray, List.set_cons_zero, List.set_cons_succ, List.drop_succ_cons, List.drop_zero, List.take_succ_cons, List.take_zero, List.take_nil, List.drop_nil, Nat.zero_add, Nat.add_zero, Nat.reduceAdd, Nat.reduceMul, Int.reduceToNat, Int.toNat_zero, Int.toNat_one, Int.reduceSub, Int.reduceAdd, Nat.one_mul, Nat.zero_mul, Nat.mul_one]) <;> rfl)) | apply Ab.ik01 | apply Ab.ik0 | apply Ab.ikG | apply Ab.X.thenN | apply Ab.X.thenE | apply Ab.X.thenR | apply Ab.X.blockN | apply Ab.X.blockR | apply Ab.X.blockE | (apply Ab.X.blockO; (case hne => decide)) | apply Ab.X.roundE | apply Ab.X.roundR | (apply Ab.asm; assumption) | rfl | infer_instance | decide)))
  all_goals ((first | apply RetQ.ret | apply RetQ.normal); (case he => (repeat' (first | exact EvR.nil | apply EvR.tmp | (apply EvR.cellA; (case ha => rfl)) | (apply EvR.cell1; (case ha => rfl)) | (apply Ab.K.ev; first | exact Ev.hit | (apply Ev.missB; case h => rfl) | exact Ev.const | exact Ev.func | apply Ev.non | assumption | (apply Ev.arg; rfl)) | (apply Ab.K.at_; first | exact At.hit | (apply Ab.asm; assumption) | (apply At.var; assumption) | (apply At.agree; (case ha => assumption); (case hn => (first | exact List.not_mem_nil | (simp [others, unordB, cC]; done) | (simp [others, unordB, cC]; omega)))) | (apply At.miss; case h => omega)) | rfl))); (case hg => rfl))
  all_goals first | rfl | exact Keeps.fr (by (repeat' (first | assumption | exact Fr.refl _ _ | (apply Fr.set; (case hid => simp)) | (apply Fr.new; (case hid => (repeat' (first | assumption | (apply Free.agree; (case ha => assumption); (case hn => (first | exact List.not_mem_nil | (simp [others, unordB, cC]; done) | (simp [others, unordB, cC]; omega)))) | (apply Free.from; (case h => assumption); (case hi => omega)) | exact Top.free (by assumption) (by omega) | (apply Free.miss; case h => omega)))))))) hnm
/-- A pair as the document has it: both ways in memory. -/
structure PV (s : AHeap) (limit : Int) (x : Pr) (v0 v1 : Value) (o0 o1 : Option Nat) : Prop where
  w0 : WAt s 2 v0 o0 x.w0.length (nc x.w0)
  w1 : WAt s 2 v1 o1 x.w1.length (nc x.w1)
theorem PV.of {s s' : AHeap} {limit : Int} {x : Pr} {v0 v1 : Value} {o0 o1 : Option Nat} {M : Nat} (h : PV s limit x v0 v1 o0 o1) (hM : Top M s) (ha : ∀ i, i < M → s' i = s i) : PV s' limit x v0 v1 o0 o1 :=
  ⟨h.w0.of_at fun o e => ha o (h.w0.lt hM o e), h.w1.of_at fun o e => ha o (h.w1.lt hM o e)⟩
theorem nc1 (l : List Note) (p : Note) : nc l ++ [Value.bool p.1, Value.int .i64 p.2] = nc (l ++ [p]) := by rw [nc_append]; rfl
theorem May.prop0 {h : H} (hm : h.May) : 0 ≤ h.prop := by have := hm.1; rcases hm.2 with e | ⟨_, e | e⟩ <;> omega
/-- What an act leaves, from memory s to memory s2. -/
def StepTo (s : AHeap) (M : Nat) (limit : Int) (x y : Pr) (v0 v1 : Value) (o : Act) : Prop :=
  ∃ d v0' v1' o0' o1', ACall Try.prog 22 [.agg (pc limit x.h0 x.h1 v0 v1).toArray, .agg (av o).toArray] s (.agg (pc limit y.h0 y.h1 v0' v1').toArray) (updH s d) ∧ PV (updH s d) limit y v0' v1' o0' o1' ∧ (∀ i, i < M → updH s d i = s i) ∧ Top (M + 2) (updH s d) ∧ ∀ id ∈ d.map (·.1), id ∈ [M, M + 1]
theorem StepTo.same {s : AHeap} {M : Nat} {limit : Int} {x y : Pr} {v0 v1 : Value} {o0 o1 : Option Nat} {o : Act} (hT : Top M s) (hP : PV s limit y v0 v1 o0 o1) (h : ACall Try.prog 22 [.agg (pc limit x.h0 x.h1 v0 v1).toArray, .agg (av o).toArray] s (.agg (pc limit y.h0 y.h1 v0 v1).toArray) s) : StepTo s M limit x y v0 v1 o :=
  ⟨[], v0, v1, o0, o1, h, hP, fun _ _ => rfl, fun i hi => hT i (by omega), by simp⟩
theorem StepTo.new0 {s : AHeap} {M k : Nat} {limit : Int} {x y : Pr} {v0 v1 : Value} {o0 o1 : Option Nat} {o : Act} {cs : List Value} (hT : Top M s) (hP : PV s limit x v0 v1 o0 o1) (hk : y.w0.length = k) (hcs : cs = nc y.w0) (hy : y.w1 = x.w1)
    (h : s M = none → ACall Try.prog 22 [.agg (pc limit x.h0 x.h1 v0 v1).toArray, .agg (av o).toArray] s (.agg (pc limit y.h0 y.h1 (.slice (some ⟨M, 0, none⟩) k k) v1).toArray) (s.set M (.cells true 2 cs))) : StepTo s M limit x y v0 v1 o := by
  subst hk; subst hcs
  have hw : WAt (s.set M (.cells true 2 (nc y.w0))) 2 (.slice (some ⟨M, 0, none⟩) y.w0.length y.w0.length) (some M) y.w0.length (nc y.w0) := WAt.new At.hit (nc_length _)
  have hw2 := hP.w1.of_at (s' := s.set M (.cells true 2 (nc y.w0))) fun o' e => AHeap.set_other _ _ (by have := hP.w1.lt hT o' e; omega)
  rw [← hy] at hw2
  exact ⟨[(M, .cells true 2 (nc y.w0))], _, _, _, _, h (hT.none (Nat.le_refl _)), ⟨hw, hw2⟩, fun i hi => AHeap.set_other _ _ (by omega), fun i hi => by rw [updH, updH, AHeap.set_other _ _ (by omega)]; exact hT i (by omega), by simp⟩
theorem StepTo.both0 {s : AHeap} {M : Nat} {limit : Int} {x y : Pr} {v0 v1 : Value} {o : Act} {c d : List Value} {k m : Nat} (hT : Top M s) (hk : y.w0.length = k) (hm : y.w1.length = m) (hc : c = nc y.w0) (hd : d = nc y.w1)
    (h : s M = none → s (M + 1) = none → ACall Try.prog 22 [.agg (pc limit x.h0 x.h1 v0 v1).toArray, .agg (av o).toArray] s (.agg (pc limit y.h0 y.h1 (.slice (some ⟨M, 0, none⟩) k k) (.slice (some ⟨M + 1, 0, none⟩) m m)).toArray) ((s.set M (.cells true 2 c)).set (M + 1) (.cells true 2 d))) : StepTo s M limit x y v0 v1 o := by
  subst hk; subst hm; subst hc; subst hd
  refine ⟨[(M, .cells true 2 (nc y.w0)), (M + 1, .cells true 2 (nc y.w1))], _, _, _, _, h (hT.none (Nat.le_refl _)) (hT.none (by omega)), ⟨WAt.new (At.miss (by omega) At.hit) (nc_length _), WAt.new At.hit (nc_length _)⟩, fun i hi => ?_, fun i hi => ?_, by simp⟩
  · rw [updH, updH, updH, AHeap.set_other _ _ (by omega), AHeap.set_other _ _ (by omega)]
  · rw [updH, updH, updH, AHeap.set_other _ _ (by omega), AHeap.set_other _ _ (by omega)]; exact hT i (by omega)
theorem rdo_act0 {s : AHeap} {M : Nat} {limit : Int} {x : Pr} {v0 v1 : Value} {o0 o1 : Option Nat} {o : Act} (hl : 1 ≤ limit ∧ limit ≤ 2147483647) (hT : Top M s) (hi : Inv limit x) (hP : PV s limit x v0 v1 o0 o1) (hb : x.w0.length ≤ 900000 ∧ x.w1.length ≤ 900000) (ha : o.a = 1) :
    StepTo s M limit x (act limit x false o.kind o.n) v0 v1 o := by
  obtain ⟨kind, a, b, n, w⟩ := o
  simp only at ha; subst ha
  have hm : x.h0.May := (hi.ok false).may
  have hmT : x.h1.May := (hi.ok (!false)).may
  have hp := May.prop0 hm
  show StepTo s M limit x (act limit x false kind n) v0 v1 _
  by_cases k1 : kind = 1
  · subst k1
    by_cases p0 : x.h0.prop = 0
    · have e : act limit x false 1 n = x := by unfold act; rw [if_pos rfl]; exact if_pos p0
      rw [e]; exact .same hT hP (rdo_skip0 hP.w0 hP.w1 hp (.inl ⟨rfl, p0⟩))
    · have e : act limit x false 1 n = x.setW false (x.w0 ++ [(true, x.h0.prop)]) := by unfold act; rw [if_pos rfl]; exact if_neg p0
      rw [e]; exact .new0 hT hP (k := x.w0.length + 1) (by show (x.w0 ++ _).length = _; simp) (nc1 _ (true, _)) rfl (fun hM => rdo_tick0 hP.w0 hP.w1 hb.1 hM (by omega))
  by_cases k9 : kind = 9
  · subst k9
    have e : act limit x false 9 n = x.setH false (close limit x.h0) := by unfold act; rw [if_neg (by decide), if_pos rfl]; rfl
    rw [e]; exact .same hT ⟨hP.w0, hP.w1⟩ (rdo_close0 (kind := 9) hP.w0 hP.w1 hm hl)
  have e0 : act limit x false kind n = onWay limit x false kind n := by unfold act; rw [if_neg k1, if_neg k9]
  rw [e0]
  by_cases hz : x.w0.length = 0 ∨ kind < 2 ∨ 5 < kind
  · have e : onWay limit x false kind n = x := by unfold onWay; exact if_pos hz
    rw [e]; exact .same hT hP (rdo_skip0 hP.w0 hP.w1 hp (.inr ⟨k1, k9, hz⟩))
  have hz1 : x.w0.length ≠ 0 := fun e => hz (.inl e)
  obtain ⟨k, hk⟩ : ∃ k, k = at_ n x.w0.length := ⟨_, rfl⟩
  have hkl : k < x.w0.length := by rw [hk]; exact at_lt hz1
  obtain ⟨nt, hnt⟩ : ∃ nt, nt = x.w0.getD k (false, 0) := ⟨_, rfl⟩
  have e1 : onWay limit x false kind n = if kind = 2 then hear limit (x.setW false (x.w0.eraseIdx k)) false nt else if kind = 3 then x.setW false (x.w0.eraseIdx k) else if kind = 4 then x.setW false (x.w0 ++ [nt]) else x.setW false (x.w0.eraseIdx k ++ [nt]) := by
    rw [hnt, hk]; unfold onWay; exact if_neg hz
  rw [e1]
  have hlen : (x.w0.eraseIdx k).length = x.w0.length - 1 := List.length_eraseIdx_of_lt hkl
  by_cases k2 : kind = 2
  · subst k2
    rw [if_pos rfl]
    obtain ⟨is, p⟩ := nt
    cases is with
    | false =>
      have e : hear limit (x.setW false (x.w0.eraseIdx k)) false (false, p) = (x.setW false (x.w0.eraseIdx k)).setH (!false) (welcome x.h1 p) := by unfold hear; exact if_neg (by simp)
      rw [e]; exact .new0 hT hP (k := x.w0.length - 1) hlen rfl rfl (fun hM => rdo_wel0 (oo := 0) hP.w0 hP.w1 hb.1 hM hz1 hk hnt hmT)
    | true =>
      cases he : (hello limit x.h1 p).2 with
      | false =>
        have e : hear limit (x.setW false (x.w0.eraseIdx k)) false (true, p) = (x.setW false (x.w0.eraseIdx k)).setH (!false) (hello limit x.h1 p).1 := by
          unfold hear; rw [if_pos rfl]; exact if_neg (by show ¬ (hello limit x.h1 p).2 = true; rw [he]; simp)
        rw [e]; exact .new0 hT hP (k := x.w0.length - 1) hlen rfl rfl (fun hM => rdo_no0 (oo := 0) hP.w0 hP.w1 hb.1 hM hz1 hk hnt hmT hl he)
      | true =>
        have e : hear limit (x.setW false (x.w0.eraseIdx k)) false (true, p) = ((x.setW false (x.w0.eraseIdx k)).setH (!false) (hello limit x.h1 p).1).setW (!false) (x.w1 ++ [(false, p)]) := by
          unfold hear; rw [if_pos rfl]; exact if_pos (by show (hello limit x.h1 p).2 = true; exact he)
        rw [e]; exact .both0 hT (k := x.w0.length - 1) (m := x.w1.length + 1) hlen (by show (x.w1 ++ _).length = _; simp) rfl (nc1 _ (false, _)) (fun hM hM1 => rdo_yes0 hP.w0 hP.w1 hb.1 hM hz1 hk hnt hmT hl he hb.2 hM1 (by omega))
  rw [if_neg k2]
  by_cases k3 : kind = 3
  · subst k3
    rw [if_pos rfl]
    exact .new0 hT hP (k := x.w0.length - 1) hlen rfl rfl (fun hM => rdo_drop0 (oo := 0) hP.w0 hP.w1 hb.1 hM hz1 hk hnt)
  rw [if_neg k3]
  by_cases k4 : kind = 4
  · subst k4
    rw [if_pos rfl]
    exact .new0 hT hP (k := x.w0.length + 1) (by show (x.w0 ++ _).length = _; simp) (nc1 _ nt) rfl (fun hM => rdo_twice0 (oo := 0) hP.w0 hP.w1 hb.1 hM hz1 hk hnt)
  rw [if_neg k4]
  obtain rfl : kind = 5 := by omega
  exact .new0 hT hP (k := x.w0.length - 1 + 1) (by show (x.w0.eraseIdx k ++ _).length = _; rw [List.length_append, hlen]; rfl) (nc1 _ nt) rfl (fun hM => rdo_late0 (oo := 0) hP.w0 hP.w1 hb.1 hM hz1 hk hnt)
theorem StepTo.new1 {s : AHeap} {M k : Nat} {limit : Int} {x y : Pr} {v0 v1 : Value} {o0 o1 : Option Nat} {o : Act} {cs : List Value} (hT : Top M s) (hP : PV s limit x v0 v1 o0 o1) (hk : y.w1.length = k) (hcs : cs = nc y.w1) (hy : y.w0 = x.w0)
    (h : s M = none → ACall Try.prog 22 [.agg (pc limit x.h0 x.h1 v0 v1).toArray, .agg (av o).toArray] s (.agg (pc limit y.h0 y.h1 v0 (.slice (some ⟨M, 0, none⟩) k k)).toArray) (s.set M (.cells true 2 cs))) : StepTo s M limit x y v0 v1 o := by
  subst hk; subst hcs
  have hw : WAt (s.set M (.cells true 2 (nc y.w1))) 2 (.slice (some ⟨M, 0, none⟩) y.w1.length y.w1.length) (some M) y.w1.length (nc y.w1) := WAt.new At.hit (nc_length _)
  have hw2 := hP.w0.of_at (s' := s.set M (.cells true 2 (nc y.w1))) fun o' e => AHeap.set_other _ _ (by have := hP.w0.lt hT o' e; omega)
  rw [← hy] at hw2
  exact ⟨[(M, .cells true 2 (nc y.w1))], _, _, _, _, h (hT.none (Nat.le_refl _)), ⟨hw2, hw⟩, fun i hi => AHeap.set_other _ _ (by omega), fun i hi => by rw [updH, updH, AHeap.set_other _ _ (by omega)]; exact hT i (by omega), by simp⟩
theorem StepTo.both1 {s : AHeap} {M : Nat} {limit : Int} {x y : Pr} {v0 v1 : Value} {o : Act} {c d : List Value} {k m : Nat} (hT : Top M s) (hk : y.w1.length = k) (hm : y.w0.length = m) (hc : c = nc y.w1) (hd : d = nc y.w0)
    (h : s M = none → s (M + 1) = none → ACall Try.prog 22 [.agg (pc limit x.h0 x.h1 v0 v1).toArray, .agg (av o).toArray] s (.agg (pc limit y.h0 y.h1 (.slice (some ⟨M + 1, 0, none⟩) m m) (.slice (some ⟨M, 0, none⟩) k k)).toArray) ((s.set (M + 1) (.cells true 2 d)).set M (.cells true 2 c))) : StepTo s M limit x y v0 v1 o := by
  subst hk; subst hm; subst hc; subst hd
  refine ⟨[(M + 1, .cells true 2 (nc y.w0)), (M, .cells true 2 (nc y.w1))], _, _, _, _, h (hT.none (Nat.le_refl _)) (hT.none (by omega)), ⟨WAt.new (At.miss (by omega) At.hit) (nc_length _), WAt.new At.hit (nc_length _)⟩, fun i hi => ?_, fun i hi => ?_, by simp⟩
  · rw [updH, updH, updH, AHeap.set_other _ _ (by omega), AHeap.set_other _ _ (by omega)]
  · rw [updH, updH, updH, AHeap.set_other _ _ (by omega), AHeap.set_other _ _ (by omega)]; exact hT i (by omega)
theorem rdo_act1 {s : AHeap} {M : Nat} {limit : Int} {x : Pr} {v0 v1 : Value} {o0 o1 : Option Nat} {o : Act} (hl : 1 ≤ limit ∧ limit ≤ 2147483647) (hT : Top M s) (hi : Inv limit x) (hP : PV s limit x v0 v1 o0 o1) (hb : x.w0.length ≤ 900000 ∧ x.w1.length ≤ 900000) (ha : o.a = 2) :
    StepTo s M limit x (act limit x true o.kind o.n) v0 v1 o := by
  obtain ⟨kind, a, b, n, w⟩ := o
  simp only at ha; subst ha
  have hm : x.h1.May := (hi.ok true).may
  have hmT : x.h0.May := (hi.ok (!true)).may
  have hp := May.prop0 hm
  show StepTo s M limit x (act limit x true kind n) v0 v1 _
  by_cases k1 : kind = 1
  · subst k1
    by_cases p0 : x.h1.prop = 0
    · have e : act limit x true 1 n = x := by unfold act; rw [if_pos rfl]; exact if_pos p0
      rw [e]; exact .same hT hP (rdo_skip1 hP.w0 hP.w1 hp (.inl ⟨rfl, p0⟩))
    · have e : act limit x true 1 n = x.setW true (x.w1 ++ [(true, x.h1.prop)]) := by unfold act; rw [if_pos rfl]; exact if_neg p0
      rw [e]; exact .new1 hT hP (k := x.w1.length + 1) (by show (x.w1 ++ _).length = _; simp) (nc1 _ (true, _)) rfl (fun hM => rdo_tick1 hP.w0 hP.w1 hb.2 hM (by omega))
  by_cases k9 : kind = 9
  · subst k9
    have e : act limit x true 9 n = x.setH true (close limit x.h1) := by unfold act; rw [if_neg (by decide), if_pos rfl]; rfl
    rw [e]; exact .same hT ⟨hP.w0, hP.w1⟩ (rdo_close1 (kind := 9) hP.w0 hP.w1 hm hl)
  have e0 : act limit x true kind n = onWay limit x true kind n := by unfold act; rw [if_neg k1, if_neg k9]
  rw [e0]
  by_cases hz : x.w1.length = 0 ∨ kind < 2 ∨ 5 < kind
  · have e : onWay limit x true kind n = x := by unfold onWay; exact if_pos hz
    rw [e]; exact .same hT hP (rdo_skip1 hP.w0 hP.w1 hp (.inr ⟨k1, k9, hz⟩))
  have hz1 : x.w1.length ≠ 0 := fun e => hz (.inl e)
  obtain ⟨k, hk⟩ : ∃ k, k = at_ n x.w1.length := ⟨_, rfl⟩
  have hkl : k < x.w1.length := by rw [hk]; exact at_lt hz1
  obtain ⟨nt, hnt⟩ : ∃ nt, nt = x.w1.getD k (false, 0) := ⟨_, rfl⟩
  have e1 : onWay limit x true kind n = if kind = 2 then hear limit (x.setW true (x.w1.eraseIdx k)) true nt else if kind = 3 then x.setW true (x.w1.eraseIdx k) else if kind = 4 then x.setW true (x.w1 ++ [nt]) else x.setW true (x.w1.eraseIdx k ++ [nt]) := by
    rw [hnt, hk]; unfold onWay; exact if_neg hz
  rw [e1]
  have hlen : (x.w1.eraseIdx k).length = x.w1.length - 1 := List.length_eraseIdx_of_lt hkl
  by_cases k2 : kind = 2
  · subst k2
    rw [if_pos rfl]
    obtain ⟨is, p⟩ := nt
    cases is with
    | false =>
      have e : hear limit (x.setW true (x.w1.eraseIdx k)) true (false, p) = (x.setW true (x.w1.eraseIdx k)).setH (!true) (welcome x.h0 p) := by unfold hear; exact if_neg (by simp)
      rw [e]; exact .new1 hT hP (k := x.w1.length - 1) hlen rfl rfl (fun hM => rdo_wel1 (oo := 0) hP.w0 hP.w1 hb.2 hM hz1 hk hnt hmT)
    | true =>
      cases he : (hello limit x.h0 p).2 with
      | false =>
        have e : hear limit (x.setW true (x.w1.eraseIdx k)) true (true, p) = (x.setW true (x.w1.eraseIdx k)).setH (!true) (hello limit x.h0 p).1 := by
          unfold hear; rw [if_pos rfl]; exact if_neg (by show ¬ (hello limit x.h0 p).2 = true; rw [he]; simp)
        rw [e]; exact .new1 hT hP (k := x.w1.length - 1) hlen rfl rfl (fun hM => rdo_no1 (oo := 0) hP.w0 hP.w1 hb.2 hM hz1 hk hnt hmT hl he)
      | true =>
        have e : hear limit (x.setW true (x.w1.eraseIdx k)) true (true, p) = ((x.setW true (x.w1.eraseIdx k)).setH (!true) (hello limit x.h0 p).1).setW (!true) (x.w0 ++ [(false, p)]) := by
          unfold hear; rw [if_pos rfl]; exact if_pos (by show (hello limit x.h0 p).2 = true; exact he)
        rw [e]; exact .both1 hT (k := x.w1.length - 1) (m := x.w0.length + 1) hlen (by show (x.w0 ++ _).length = _; simp) rfl (nc1 _ (false, _)) (fun hM hM1 => rdo_yes1 hP.w0 hP.w1 hb.2 hM hz1 hk hnt hmT hl he hb.1 hM1 (by omega))
  rw [if_neg k2]
  by_cases k3 : kind = 3
  · subst k3
    rw [if_pos rfl]
    exact .new1 hT hP (k := x.w1.length - 1) hlen rfl rfl (fun hM => rdo_drop1 (oo := 0) hP.w0 hP.w1 hb.2 hM hz1 hk hnt)
  rw [if_neg k3]
  by_cases k4 : kind = 4
  · subst k4
    rw [if_pos rfl]
    exact .new1 hT hP (k := x.w1.length + 1) (by show (x.w1 ++ _).length = _; simp) (nc1 _ nt) rfl (fun hM => rdo_twice1 (oo := 0) hP.w0 hP.w1 hb.2 hM hz1 hk hnt)
  rw [if_neg k4]
  obtain rfl : kind = 5 := by omega
  exact .new1 hT hP (k := x.w1.length - 1 + 1) (by show (x.w1.eraseIdx k ++ _).length = _; rw [List.length_append, hlen]; rfl) (nc1 _ nt) rfl (fun hM => rdo_late1 (oo := 0) hP.w0 hP.w1 hb.2 hM hz1 hk hnt)
/-- The document's act is the plain one. -/
theorem rdo_step {s : AHeap} {M : Nat} {limit : Int} {x : Pr} {v0 v1 : Value} {o0 o1 : Option Nat} {o : Act} (hl : 1 ≤ limit ∧ limit ≤ 2147483647) (hT : Top M s) (hi : Inv limit x) (hP : PV s limit x v0 v1 o0 o1) (hb : x.notes ≤ 900000) :
    StepTo s M limit x (HP.step limit x o.op) v0 v1 o := by
  have hb' : x.w0.length ≤ 900000 ∧ x.w1.length ≤ 900000 := by unfold Pr.notes at hb; omega
  by_cases h1 : o.a = 1
  · have e : HP.step limit x o.op = act limit x false o.kind o.n := by unfold HP.step; exact if_pos h1
    rw [e]; exact rdo_act0 hl hT hi hP hb' h1
  by_cases h2 : o.a = 2
  · have e : HP.step limit x o.op = act limit x true o.kind o.n := by unfold HP.step; exact (if_neg h1).trans (if_pos h2)
    rw [e]; exact rdo_act1 hl hT hi hP hb' h2
  have e : HP.step limit x o.op = x := by unfold HP.step; exact (if_neg h1).trans (if_neg h2)
  rw [e]; exact .same hT hP (rdo_none hP.w0 hP.w1 ⟨h1, h2⟩)
end Go.Proofs.Ytdjbpnpfgabdjaa
