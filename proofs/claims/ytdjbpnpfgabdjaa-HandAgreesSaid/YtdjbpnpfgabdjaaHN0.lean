/- hand: an act more, for both: the list of acts, and the document's pair. -/
import Derived.Test.YtdjbpnpfgabdjaaHV
namespace Go.Proofs.Ytdjbpnpfgabdjaa
set_option linter.unusedVariables false
set_option linter.unusedSimpArgs false
set_option linter.unusedSectionVars false
open Go.RowKit Ab HP
attribute [local irreducible] AOps AOpsD AOp AWp put nargs AHeap.set At Free ACall thenQ blockQ roundQ RetQ Src hello welcome close run HP.step act

theorem WAt.isl' {s : AHeap} {es : Nat} {v : Value} {on : Option Nat} {n : Nat} {xs : List Value} (h : WAt s es v on n xs) : ∃ A c, v = .slice A n c := by
  cases h with
  | nil => exact ⟨_, _, rfl⟩
  | blk => exact ⟨_, _, rfl⟩
theorem WAt.apart' {s : AHeap} {es : Nat} {v : Value} {on : Option Nat} {n : Nat} {xs : List Value} {j e : Nat} {rw : Bool} {c : List Value} (h : WAt s es v on n xs) (p : At s j (.cells rw e c)) (hne : es ≠ e) : ∀ o, on = some o → o ≠ j := by
  cases h with
  | nil => intro o e; cases e
  | blk h a b d =>
    intro o eo ej
    obtain rfl := Option.some.inj eo
    subst ej
    have := Option.some.inj (h.eq.symm.trans p.eq)
    injection this with _ h2 _
    exact hne h2
theorem WAt.ne' {s : AHeap} {es es' : Nat} {v v' : Value} {on on' : Option Nat} {n n' : Nat} {xs xs' : List Value} (h : WAt s es v on n xs) (h' : WAt s es' v' on' n' xs') (hne : es ≠ es') : ∀ o o', on = some o → on' = some o' → o ≠ o' := by
  cases h' with
  | nil => intro o o' _ e; cases e
  | blk p a b d => intro o o' eo eo'; obtain rfl := Option.some.inj eo'; exact WAt.apart' h p hne o eo
structure LS (s s1 : AHeap) (j M : Nat) (limit : Int) (x : Pr) (az : List Act) (vA v0 v1 : Value) (oA o0 o1 : Option Nat) : Prop where
  p : At s1 j (.cells true 1 (pc limit x.h0 x.h1 v0 v1))
  w : PV s1 limit x v0 v1 o0 o1
  a : WAt s1 5 vA oA az.length (oc az)
  f : ∀ o, oA = some o → s o = none
  t : Top M s1
  F : Fr s1 s []
  jf : s j = none
theorem fr_lt {s s1 s2 : AHeap} {M : Nat} (hF : Fr s1 s []) (hT : Top M s1) (h : ∀ i, i < M → s i ≠ none → s2 i = s1 i) : Fr s2 s [] := fun i hi b hb => by
  have := hF i hi b hb
  rw [h i (Nat.lt_of_not_le fun e => by rw [hT i e] at this; cases this) (by rw [hb]; simp)]; exact this
theorem LS.turn {s s1 : AHeap} {j M : Nat} {limit : Int} {x : Pr} {az : List Act} {vA v0 v1 : Value} {oA o0 o1 : Option Nat} (h : LS s s1 j M limit x az vA v0 v1 oA o0 o1) (o : Act) (hl : 1 ≤ limit ∧ limit ≤ 2147483647) (hi : Inv limit x) (hb : x.notes ≤ 900000) (hb2 : az.length ≤ 900000) :
    ∃ vA' d oA' d2 v0' v1' o0' o1', (∀ {tm : Env} {x y : Operand} {vy : Value} {dd : Option Tmp} {t : TypeId} {p : String} {af : Array Edge} {gd : Option (Nat × Bool)} {K : Value → AHeap → Prop}, Ev tm x vA → Ev tm y vy → Src (s1.set M (.cells true 5 (av o))) 5 vy 1 (av o) → K vA' (updH (s1.set M (.cells true 5 (av o))) d) → AOp Try.prog ⟨dd, .call ⟨.builtin .append, #[x, y], #[46, 46]⟩, t, p, af, gd⟩ tm (s1.set M (.cells true 5 (av o))) K) ∧
      At (updH (s1.set M (.cells true 5 (av o))) d) j (.cells true 1 (pc limit x.h0 x.h1 v0 v1)) ∧
      ACall Try.prog 22 [.agg (pc limit x.h0 x.h1 v0 v1).toArray, .agg (av o).toArray] (updH (s1.set M (.cells true 5 (av o))) d) (.agg (pc limit (HP.step limit x o.op).h0 (HP.step limit x o.op).h1 v0' v1').toArray) (updH (updH (s1.set M (.cells true 5 (av o))) d) d2) ∧
      At (updH (updH (s1.set M (.cells true 5 (av o))) d) d2) j (.cells true 1 (pc limit x.h0 x.h1 v0 v1)) ∧
      LS s ((updH (updH (s1.set M (.cells true 5 (av o))) d) d2).set j (.cells true 1 (pc limit (HP.step limit x o.op).h0 (HP.step limit x o.op).h1 v0' v1'))) j (M + 4) limit (HP.step limit x o.op) (az ++ [o]) vA' v0' v1' oA' o0' o1' := by
  have hjM := h.t.lt h.p
  have hAM := h.a.lt h.t
  obtain ⟨vA', d, hW⟩ := WAt.app (P := Try.prog) (t1 := 46) (t2 := 46) (m := 1) (N := M + 1) (ys := av o) h.a rfl (by decide) rfl ⟨rfl, by decide⟩ (by omega) (fun o e => by have := hAM o e; omega)
  have hag : ∀ i, oA = some i → (s1.set M (.cells true 5 (av o))) i = s1 i := fun i e => AHeap.set_other _ _ (by have := hAM i e; omega)
  have hN : (s1.set M (.cells true 5 (av o))) (M + 1) = none := by rw [AHeap.set_other _ _ (by omega)]; exact h.t.none (by omega)
  obtain ⟨oA', hA', hoA⟩ := hW.at2 _ hag hN
  -- what the append leaves alone
  have hout : ∀ i, i < M → oA ≠ some i → updH (s1.set M (.cells true 5 (av o))) d i = s1 i := fun i hi hne => by
    rw [updH_out (fun hm => (hW.names i hm).elim (fun e => hne e) (fun e => by omega))]
    exact AHeap.set_other _ _ (by omega)
  have hjne : oA ≠ some j := fun e => WAt.apart' h.a h.p (by decide) j e rfl
  have t2 : Top (M + 2) (updH (s1.set M (.cells true 5 (av o))) d) := fun i hi => by
    rw [updH_out (fun hm => (hW.names i hm).elim (fun e => by have := hAM i e; omega) (fun e => by omega)), AHeap.set_other _ _ (by omega)]
    exact h.t i (by omega)
  have p2 : At (updH (s1.set M (.cells true 5 (av o))) d) j (.cells true 1 (pc limit x.h0 x.h1 v0 v1)) := by unfold At; rw [hout j hjM hjne]; exact h.p.eq
  have w2 : PV (updH (s1.set M (.cells true 5 (av o))) d) limit x v0 v1 o0 o1 :=
    ⟨h.w.w0.of_at fun o' e => hout o' (h.w.w0.lt h.t o' e) (fun e2 => WAt.ne' h.w.w0 h.a (by decide) o' o' e e2 rfl),
     h.w.w1.of_at fun o' e => hout o' (h.w.w1.lt h.t o' e) (fun e2 => WAt.ne' h.w.w1 h.a (by decide) o' o' e e2 rfl)⟩
  have F2 : Fr (updH (s1.set M (.cells true 5 (av o))) d) s [] := fr_lt h.F h.t fun i hi hne => hout i hi fun e => hne (h.f i e)
  obtain ⟨d2, v0', v1', o0', o1', hc, hP, hag2, hT2, hd2⟩ := rdo_step (o := o) hl t2 hi w2 hb
  refine ⟨vA', d, oA', d2, v0', v1', o0', o1', fun hx hy hs hK => hW.op hag hN hx hy hs hK, p2, hc, ?_, ?_⟩
  · unfold At; rw [hag2 j (by omega)]; exact p2.eq
  have p3 : At (updH (updH (s1.set M (.cells true 5 (av o))) d) d2) j (.cells true 1 (pc limit x.h0 x.h1 v0 v1)) := by unfold At; rw [hag2 j (by omega)]; exact p2.eq
  have hA3 : WAt (updH (updH (s1.set M (.cells true 5 (av o))) d) d2) 5 vA' oA' (az.length + 1) (oc az ++ av o) := hA'.of_at fun o' e => hag2 o' (hA'.lt t2 o' e)
  refine ⟨At.hit, ⟨hP.w0.of_at fun o' e => AHeap.set_other _ _ (WAt.apart' hP.w0 p3 (by decide) o' e), hP.w1.of_at fun o' e => AHeap.set_other _ _ (WAt.apart' hP.w1 p3 (by decide) o' e)⟩, ?_, fun o' e => ?_, hT2.set (by omega), ?_, h.jf⟩
  · have e1 : oc (az ++ [o]) = oc az ++ av o := by simp [oc]
    rw [List.length_append, List.length_singleton, e1]
    exact hA3.of_at fun o' e => AHeap.set_other _ _ (WAt.apart' hA3 p3 (by decide) o' e)
  · rcases hoA with e2 | e2
    · exact h.f o' (by rw [← e2]; exact e)
    · rw [e2] at e; obtain rfl := Option.some.inj e
      cases hs : s (M + 1) with
      | none => rfl
      | some b => have := h.F (M + 1) (by simp) b hs; rw [h.t.none (by omega)] at this; cases this
  · refine fr_set (fr_lt F2 t2 fun i hi _ => hag2 i hi) h.jf
end Go.Proofs.Ytdjbpnpfgabdjaa
