/- join: the functions of sets that grow together, over the abstract memory. -/
import Derived.Test.YtphjkpnidoaonaaProg
import Derived.Test.YtphjkpnidoaonaaAb9
import Derived.Test.YtphjkpnidoaonaaJoinPlain
import Derived.KernelRfl
namespace Go.Proofs.Ytphjkpnidoaonaa
set_option linter.unusedVariables false
set_option linter.unusedSimpArgs false
set_option linter.unusedSectionVars false
open Go.RowKit Ab
attribute [local irreducible] AOps AOpsD AOp AWp put nargs AHeap.set At Free ACall thenQ blockQ roundQ RetQ Src
instance : HasTD Try.prog 3 ⟨.int .i64, 1, 8, .int .i64 0⟩ := ⟨by kernel_rfl⟩
instance : HasTD Try.prog 4 ⟨.bool, 1, 1, .bool false⟩ := ⟨by kernel_rfl⟩
instance : HasTD Try.prog 5 ⟨.int .u8, 1, 1, .int .u8 0⟩ := ⟨by kernel_rfl⟩
instance : HasTD Try.prog 22 ⟨.slice 28, 1, 24, .slice none 0 0⟩ := ⟨by kernel_rfl⟩
instance : HasTD Try.prog 23 ⟨.ptr 42, 1, 8, .pointer none⟩ := ⟨by kernel_rfl⟩
instance : HasTD Try.prog 24 ⟨.int .i64, 1, 8, .int .i64 0⟩ := ⟨by kernel_rfl⟩
instance : HasTD Try.prog 25 ⟨.other, 1, 0, .tuple #[.pointer none, .int .i64 0]⟩ := ⟨by kernel_rfl⟩
instance : HasTD Try.prog 28 ⟨.array 2 3, 2, 16, .agg #[.int .i64 0, .int .i64 0]⟩ := ⟨by kernel_rfl⟩
instance : HasTD Try.prog 33 ⟨.slice 3, 1, 24, .slice none 0 0⟩ := ⟨by kernel_rfl⟩
instance : HasTD Try.prog 42 ⟨.struct [(0, 33), (1, 33), (2, 33), (3, 3)], 4, 80, .agg #[.slice none 0 0, .slice none 0 0, .slice none 0 0, .int .i64 0]⟩ := ⟨by kernel_rfl⟩


theorem has_spec {s : AHeap} {j : Nat} {A : Option Addr} {n c : Nat} {rest : List Value} {sz : Nat} (hj : At s j (.cells true sz (.slice A n c :: rest))) (a : Int) :
    ACall Try.prog 19 [.pointer (some ⟨j, 0, none⟩), .int .i64 a] s (.bool (decide (1 ≤ a ∧ a < n))) s := by
  refine ACall.make Try.func19 rfl (by kernel_rfl) (by decide) rfl (fun N hN => ?_)
  (repeat' ((fail_if_success fail); (first | exact Ev.hit | (apply Ev.miss; case h => decide) | exact Ev.const | exact Ev.func | apply Ev.non | (apply Ab.asm; assumption) | (apply Ev.arg; rfl) | exact Evs.nil | apply Evs.cons | exact EvP.nil | apply EvP.cons | exact EvO.none | apply EvO.some | apply Ab.S.nil | fail | apply Ab.O.move | apply Ab.O.assign | apply Ab.O.fieldAddr | apply Ab.O.pickG | (apply Ab.O.nilCheck; (case hx => (repeat' (first | exact Ev.hit | (apply Ev.miss; case h => decide) | exact Ev.const | exact Ev.func | apply Ev.non | assumption | (apply Ev.arg; rfl))))) | (apply Ab.O.nilCheckF; (case hx => (repeat' (first | exact Ev.hit | (apply Ev.miss; case h => decide) | exact Ev.const | exact Ev.func | apply Ev.non | assumption | (apply Ev.arg; rfl))))) | (apply Ab.O.loadG; (case ha => rfl)) | (apply Ab.O.loadAggG; (case ha => rfl)) | (apply Ab.O.storeG; (case hz => rfl)) | apply Ab.O.len | apply Ab.O.lenStr | apply Ab.O.addG | apply Ab.O.subG | apply Ab.O.mulG | apply Ab.O.intG | apply Ab.O.ptrEq | apply Ab.O.ptrNe | apply Ab.O.slcEq | apply Ab.O.slcNe | apply Ab.O.boolEq | apply Ab.O.boolNe | apply Ab.O.strEq | apply Ab.O.strNe | apply Ab.O.not | apply Ab.O.indexG | apply Ab.O.indexArrG | (apply Ab.O.extract; (case hx => (repeat' (first | exact Ev.hit | (apply Ev.miss; case h => decide) | exact Ev.const | exact Ev.func | apply Ev.non | assumption | (apply Ev.arg; rfl)))); (case hv => rfl)) | apply Ab.O.convInt | (apply Ab.O.fieldV; (case hx => (repeat' (first | exact Ev.hit | (apply Ev.miss; case h => decide) | exact Ev.const | exact Ev.func | apply Ev.non | assumption | (apply Ev.arg; rfl)))); (case hv => rfl)) | apply Ab.O.min2 | apply Ab.O.max2 | (apply Ab.O.callF; (case ha => (repeat' (first | exact Evs.nil | (apply Evs.cons; case h => (repeat' (first | exact Ev.hit | (apply Ev.miss; case h => decide) | exact Ev.const | exact Ev.func | apply Ev.non | assumption | (apply Ev.arg; rfl))))))); (case hc => assumption)) | apply Ab.S.op | apply Ab.S.guardG | apply Ab.gTT | apply Ab.gFF | apply Ab.gTF | apply Ab.gFT | (apply Ab.gY; case hw => assumption) | (apply Ab.gNT; case hw => assumption) | (apply Ab.gNF; case hw => assumption) | ((first | apply Ab.gD | apply Ab.gDN); all_goals (intro _ _; (first | (exfalso; omega) | skip))) | apply Ab.pk | (apply Ab.Rg.mk; omega) | (apply Ab.Lt.mk; first | decide | (simp; omega) | fail) | (apply Ab.Get.mk; first | rfl | fail) | (apply Ab.GetA.mk; (first | decide | (simp; done) | fail); (first | rfl | fail)) | apply Ab.ik01 | apply Ab.ik0 | apply Ab.ikG | apply AWp.seqR | apply AWp.seq | apply AWp.block | apply AWp.region | apply AWp.skip | apply AWp.ret | apply Ab.X.thenN | apply Ab.X.thenE | apply Ab.X.thenR | apply Ab.X.blockN | apply Ab.X.blockR | apply Ab.X.blockE | (apply Ab.X.blockO; (case hne => decide)) | apply Ab.X.roundE | apply Ab.X.roundR | apply AWp.exit | apply Ab.X.condG | exact At.hit | (apply At.var; assumption) | (apply At.agree; (case ha => assumption); (case hn => (first | exact List.not_mem_nil | (simp [others, unordB, cC]; done) | (simp [others, unordB, cC]; omega)))) | (apply At.miss; case h => omega) | rfl | infer_instance | decide | fail)))
  all_goals (apply RetQ.ret; (case he => (repeat' (first | exact EvR.nil | (apply EvR.tmp; (case h => (repeat' (first | exact Ev.hit | (apply Ev.miss; case h => decide) | exact Ev.const | exact Ev.func | apply Ev.non | assumption | (apply Ev.arg; rfl))))) | (apply EvR.cell; (case h => (repeat' (first | exact Ev.hit | (apply Ev.miss; case h => decide) | exact Ev.const | exact Ev.func | apply Ev.non | assumption | (apply Ev.arg; rfl)))); (case hv => rfl))))); (case hg => rfl))
  all_goals first | exact Keeps.self trivial | (simp only [resV]; congr 1; simp; omega)

def ints (l : List Int) : List Value := l.map (.int .i64)
theorem ints_get {l : List Int} {i : Int} (h : JP.In l i) : (ints l)[i.toNat]? = some (.int .i64 (JP.g l i)) := by
  have : i.toNat < l.length := by have := h.1; have := h.2; omega
  simp [ints, JP.g, List.getD, this]
theorem ints_set (l : List Int) (i : Nat) (v : Int) : (ints l).set i (.int .i64 v) = ints (l.set i v) := by simp [ints]
theorem ints_length (l : List Int) : (ints l).length = l.length := by simp [ints]
theorem set_self {s : AHeap} {i : Nat} {b : ABlk} (h : s i = some b) : s.set i b = s := by
  funext k; by_cases e : k = i
  · subst e; rw [AHeap.set_same, h]
  · rw [AHeap.set_other _ _ e]

open JP in
theorem top_spec {m : Int → Nat} {s : AHeap} {j u : Nat} {c : Nat} {rest : List Value} {sz : Nat} {U : List Int} {a : Int} (hw : Wf m U) (ha : In U a) (hju : j ≠ u)
    (hj : At s j (.cells true sz (.slice (some ⟨u, 0, none⟩) U.length c :: rest))) (hu : At s u (.cells true 1 (ints U))) :
    ACall Try.prog 20 [.pointer (some ⟨j, 0, none⟩), .int .i64 a] s (.int .i64 (topS (m a) U a).2) (s.set u (.cells true 1 (ints (topS (m a) U a).1))) := by
  refine ACall.make Try.func20 rfl (by kernel_rfl) (by decide) rfl (fun N hN => ?_)
  (repeat' ((fail_if_success fail); (first | exact Ev.hit | (apply Ev.miss; case h => decide) | exact Ev.const | exact Ev.func | apply Ev.non | (apply Ab.asm; assumption) | (apply Ev.arg; rfl) | exact Evs.nil | apply Evs.cons | exact EvP.nil | apply EvP.cons | exact EvO.none | apply EvO.some | apply Ab.S.nil | fail | apply Ab.O.move | apply Ab.O.assign | apply Ab.O.fieldAddr | apply Ab.O.pickG | (apply Ab.O.nilCheck; (case hx => (repeat' (first | exact Ev.hit | (apply Ev.miss; case h => decide) | exact Ev.const | exact Ev.func | apply Ev.non | assumption | (apply Ev.arg; rfl))))) | (apply Ab.O.nilCheckF; (case hx => (repeat' (first | exact Ev.hit | (apply Ev.miss; case h => decide) | exact Ev.const | exact Ev.func | apply Ev.non | assumption | (apply Ev.arg; rfl))))) | (apply Ab.O.loadG; (case ha => rfl)) | (apply Ab.O.loadAggG; (case ha => rfl)) | (apply Ab.O.storeG; (case hz => rfl)) | apply Ab.O.len | apply Ab.O.lenStr | apply Ab.O.addG | apply Ab.O.subG | apply Ab.O.mulG | apply Ab.O.intG | apply Ab.O.ptrEq | apply Ab.O.ptrNe | apply Ab.O.slcEq | apply Ab.O.slcNe | apply Ab.O.boolEq | apply Ab.O.boolNe | apply Ab.O.strEq | apply Ab.O.strNe | apply Ab.O.not | apply Ab.O.indexG | apply Ab.O.indexArrG | (apply Ab.O.extract; (case hx => (repeat' (first | exact Ev.hit | (apply Ev.miss; case h => decide) | exact Ev.const | exact Ev.func | apply Ev.non | assumption | (apply Ev.arg; rfl)))); (case hv => rfl)) | apply Ab.O.convInt | (apply Ab.O.fieldV; (case hx => (repeat' (first | exact Ev.hit | (apply Ev.miss; case h => decide) | exact Ev.const | exact Ev.func | apply Ev.non | assumption | (apply Ev.arg; rfl)))); (case hv => rfl)) | apply Ab.O.min2 | apply Ab.O.max2 | (apply Ab.O.callF; (case ha => (repeat' (first | exact Evs.nil | (apply Evs.cons; case h => (repeat' (first | exact Ev.hit | (apply Ev.miss; case h => decide) | exact Ev.const | exact Ev.func | apply Ev.non | assumption | (apply Ev.arg; rfl))))))); (case hc => assumption)) | apply Ab.S.op | apply Ab.S.guardG | apply Ab.gTT | apply Ab.gFF | apply Ab.gTF | apply Ab.gFT | (apply Ab.gY; case hw => assumption) | (apply Ab.gNT; case hw => assumption) | (apply Ab.gNF; case hw => assumption) | ((first | apply Ab.gD | apply Ab.gDN); all_goals (intro _ _; (first | (exfalso; omega) | skip))) | apply Ab.pk | (apply Ab.Rg.mk; omega) | (apply Ab.Lt.mk; first | decide | (simp; omega) | fail) | (apply Ab.Get.mk; first | rfl | fail) | (apply Ab.GetA.mk; (first | decide | (simp; done) | fail); (first | rfl | fail)) | apply Ab.ik01 | apply Ab.ik0 | apply Ab.ikG | apply AWp.seqR | apply AWp.seq | apply AWp.block | apply AWp.region | apply AWp.skip | apply AWp.ret | apply Ab.X.thenN | apply Ab.X.thenE | apply Ab.X.thenR | apply Ab.X.blockN | apply Ab.X.blockR | apply Ab.X.blockE | (apply Ab.X.blockO; (case hne => decide)) | apply Ab.X.roundE | apply Ab.X.roundR | apply AWp.exit | apply Ab.X.condG | exact At.hit | (apply At.var; assumption) | (apply At.agree; (case ha => assumption); (case hn => (first | exact List.not_mem_nil | (simp [others, unordB, cC]; done) | (simp [others, unordB, cC]; omega)))) | (apply At.miss; case h => omega) | rfl | infer_instance | decide | fail)))
  refine AWp.loop (fun k tm s1 => ∃ U1 a1, Ev tm (.tmp 0) (.pointer (some ⟨j, 0, none⟩)) ∧ Ev tm (.tmp 1) (.int .i64 a1) ∧ s1 = s.set u (.cells true 1 (ints U1)) ∧ Wf m U1 ∧ In U1 a1 ∧ U1.length = U.length ∧ m a1 ≤ k ∧ topS (m a1) U1 a1 = topS (m a) U a) (m a) ?_ ?_
  · refine ⟨U, a, ?_, ?_, (set_self hu.eq).symm, hw, ha, rfl, Nat.le_refl _, rfl⟩ <;> (repeat' (first | exact Ev.hit | (apply Ev.miss; case h => decide) | exact Ev.const | exact Ev.func | apply Ev.non | assumption | (apply Ev.arg; rfl)))
  · rintro k tm s1 ⟨U1, a1, h0, h1, rfl, hw1, ha1, hl1, hk, he⟩
    have hj1 : (s.set u (.cells true 1 (ints U1))) j = some (.cells true sz (.slice (some ⟨u, 0, none⟩) U1.length c :: rest)) := by rw [AHeap.set_other _ _ hju, hj.eq, hl1]
    have hu1 : (s.set u (.cells true 1 (ints U1))) u = some (.cells true 1 (ints U1)) := AHeap.set_same _ _ _
    have hb := ha1.1
    have hb2 := ha1.2
    have ha2 := (hw1 a1 ha1).1
    have hb3 := ha2.1
    have hb4 := ha2.2


    (repeat' ((fail_if_success fail); (first | exact Ev.hit | (apply Ev.miss; case h => decide) | exact Ev.const | exact Ev.func | apply Ev.non | (apply Ab.asm; assumption) | (apply Ev.arg; rfl) | exact Evs.nil | apply Evs.cons | exact EvP.nil | apply EvP.cons | exact EvO.none | apply EvO.some | apply Ab.S.nil | fail | apply Ab.O.move | apply Ab.O.assign | apply Ab.O.fieldAddr | apply Ab.O.pickG | (apply Ab.O.nilCheck; (case hx => (repeat' (first | exact Ev.hit | (apply Ev.miss; case h => decide) | exact Ev.const | exact Ev.func | apply Ev.non | assumption | (apply Ev.arg; rfl))))) | (apply Ab.O.nilCheckF; (case hx => (repeat' (first | exact Ev.hit | (apply Ev.miss; case h => decide) | exact Ev.const | exact Ev.func | apply Ev.non | assumption | (apply Ev.arg; rfl))))) | (apply Ab.O.loadG; (case ha => rfl)) | (apply Ab.O.loadAggG; (case ha => rfl)) | (apply Ab.O.storeG; (case hz => rfl)) | apply Ab.O.len | apply Ab.O.lenStr | apply Ab.O.addG | apply Ab.O.subG | apply Ab.O.mulG | apply Ab.O.intG | apply Ab.O.ptrEq | apply Ab.O.ptrNe | apply Ab.O.slcEq | apply Ab.O.slcNe | apply Ab.O.boolEq | apply Ab.O.boolNe | apply Ab.O.strEq | apply Ab.O.strNe | apply Ab.O.not | apply Ab.O.indexG | apply Ab.O.indexArrG | (apply Ab.O.extract; (case hx => (repeat' (first | exact Ev.hit | (apply Ev.miss; case h => decide) | exact Ev.const | exact Ev.func | apply Ev.non | assumption | (apply Ev.arg; rfl)))); (case hv => rfl)) | apply Ab.O.convInt | (apply Ab.O.fieldV; (case hx => (repeat' (first | exact Ev.hit | (apply Ev.miss; case h => decide) | exact Ev.const | exact Ev.func | apply Ev.non | assumption | (apply Ev.arg; rfl)))); (case hv => rfl)) | apply Ab.O.min2 | apply Ab.O.max2 | (apply Ab.O.callF; (case ha => (repeat' (first | exact Evs.nil | (apply Evs.cons; case h => (repeat' (first | exact Ev.hit | (apply Ev.miss; case h => decide) | exact Ev.const | exact Ev.func | apply Ev.non | assumption | (apply Ev.arg; rfl))))))); (case hc => assumption)) | apply Ab.S.op | apply Ab.S.guardG | apply Ab.D.nil | (apply Ab.D.q0; (case hw => rfl); intro _ _) | (apply Ab.D.w1n; (case hw => rfl); intro _ _) | (apply Ab.D.w2n; (case hw => rfl); intro _ _) | apply Ab.D.guardG | exact ⟨rfl, rfl⟩ | apply Ab.gTT | apply Ab.gFF | apply Ab.gTF | apply Ab.gFT | (apply Ab.gY; case hw => assumption) | (apply Ab.gNT; case hw => assumption) | (apply Ab.gNF; case hw => assumption) | ((first | apply Ab.gD | apply Ab.gDN); all_goals (intro _ _; (first | (exfalso; omega) | skip))) | apply Ab.pk | (apply Ab.Rg.mk; omega) | (apply Ab.Lt.mk; first | decide | (simp; omega) | rw [ints_length]; omega) | (apply Ab.Get.mk; first | rfl | (first | exact ints_get (by assumption) | (rw [ints_set]; exact ints_get (In.set (by assumption))))) | (apply Ab.GetA.mk; (first | decide | (simp; done) | fail); (first | rfl | fail)) | apply Ab.ik01 | apply Ab.ik0 | apply Ab.ikG | apply AWp.seqR | apply AWp.seq | apply AWp.block | apply AWp.region | apply AWp.skip | apply AWp.ret | apply Ab.X.thenN | apply Ab.X.thenE | apply Ab.X.thenR | apply Ab.X.blockN | apply Ab.X.blockR | apply Ab.X.blockE | (apply Ab.X.blockO; (case hne => decide)) | apply Ab.X.roundE | apply Ab.X.roundR | apply AWp.exit | apply Ab.X.condG | exact At.hit | (apply At.var; assumption) | (apply At.agree; (case ha => assumption); (case hn => (first | exact List.not_mem_nil | (simp [others, unordB, cC]; done) | (simp [others, unordB, cC]; omega)))) | (apply At.miss; case h => omega) | rfl | infer_instance | decide | (apply AWp.draw (id := 2) [[], [0], [0, 1], [0, 1, 2], [], [], [5], [5, 6], [5, 6, 7], [], [9], [9, 10], [9, 10, 11], [], [9, 10, 11, 12, 13], [9, 10, 11, 12, 13, 14], [5, 6, 7, 8, 9, 10, 11, 12, 13, 14, 15], [5, 6, 7, 8, 9, 10, 11, 12, 13, 14, 15, 16], [0, 1, 2, 3, 4, 5, 6, 7, 8, 9, 10, 11, 12, 13, 14, 15, 16, 17], [0, 1, 2, 3, 4, 5, 6, 7, 8, 9, 10, 11, 12, 13, 14, 15, 16, 17, 18]] [(19, [u])] (by kernel_rfl) (by kernel_rfl) (by simp [apartW, unordB, cC] <;> omega)))))
    · rename_i hne
      obtain ⟨w1, w2, w3, w4, w5⟩ := half_spec hw1 ha1 hne
      have e1 : g (half U1 a1) a1 = g U1 (g U1 a1) := g_set_same ha1
      refine X.roundN (m (g U1 (g U1 a1))) (by omega) ⟨half U1 a1, g U1 (g U1 a1), by (repeat' (first | exact Ev.hit | (apply Ev.miss; case h => decide) | exact Ev.const | exact Ev.func | apply Ev.non | assumption | (apply Ev.arg; rfl))), ?_, by rw [AHeap.set_set, ints_set]; rfl, w1, by simpa [In, half] using w5, by rw [w2, hl1], Nat.le_refl _, ?_⟩
      · refine Eq.mp (congrArg (fun z => Ev _ (.tmp 1) (.int .i64 z)) e1) ?_; (repeat' (first | exact Ev.hit | (apply Ev.miss; case h => decide) | exact Ev.const | exact Ev.func | apply Ev.non | assumption | (apply Ev.arg; rfl)))
      · rw [← he]
        cases hm : m a1 with
        | zero => omega
        | succ q =>
          simp only [topS, if_neg hne]
          exact topS_more _ _ w1 (by simpa [In, half] using w5) (Nat.le_refl _) (by omega)
    · rename_i hne
      have hr : topS (m a1) U1 a1 = (U1, a1) := by cases m a1 <;> simp [topS, Decidable.not_not.1 hne]
      rw [hr] at he
      (apply RetQ.ret; (case he => (repeat' (first | exact EvR.nil | (apply EvR.tmp; (case h => (repeat' (first | exact Ev.hit | (apply Ev.miss; case h => decide) | exact Ev.const | exact Ev.func | apply Ev.non | assumption | (apply Ev.arg; rfl))))) | (apply EvR.cell; (case h => (repeat' (first | exact Ev.hit | (apply Ev.miss; case h => decide) | exact Ev.const | exact Ev.func | apply Ev.non | assumption | (apply Ev.arg; rfl)))); (case hv => rfl))))); (case hg => rfl))
      · rw [← he]; rfl
      · rw [← he]
        refine Keeps.one hu.eq (AHeap.set_same _ _ _) (fun i hi c hc => by rw [AHeap.set_other _ _ hi]; exact hc) ?_ trivial
        intro x hx
        obtain ⟨y, _, rfl⟩ := List.mem_map.1 hx
        trivial

theorem has_yes {s : AHeap} {j : Nat} {A : Option Addr} {n c : Nat} {rest : List Value} {sz : Nat} (hj : At s j (.cells true sz (.slice A n c :: rest))) {a : Int} (h : 1 ≤ a ∧ a < n) :
    ACall Try.prog 19 [.pointer (some ⟨j, 0, none⟩), .int .i64 a] s (.bool true) s := by have := has_spec hj a; rwa [decide_eq_true h] at this
theorem has_no {s : AHeap} {j : Nat} {A : Option Addr} {n c : Nat} {rest : List Value} {sz : Nat} (hj : At s j (.cells true sz (.slice A n c :: rest))) {a : Int} (h : ¬ (1 ≤ a ∧ a < n)) :
    ACall Try.prog 19 [.pointer (some ⟨j, 0, none⟩), .int .i64 a] s (.bool false) s := by have := has_spec hj a; rwa [decide_eq_false h] at this
end Go.Proofs.Ytphjkpnidoaonaa
