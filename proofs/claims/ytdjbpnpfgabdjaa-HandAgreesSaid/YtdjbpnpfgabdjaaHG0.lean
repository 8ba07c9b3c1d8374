/- hand: something is done with a note on its way, as one law; a proposal is sent. -/
import Derived.Test.YtdjbpnpfgabdjaaHF
namespace Go.Proofs.Ytdjbpnpfgabdjaa
set_option linter.unusedVariables false
set_option linter.unusedSimpArgs false
set_option linter.unusedSectionVars false
open Go.RowKit Ab HP

theorem on_step {sb s : AHeap} {j M : Nat} {limit kind a b n w : Int} {x : Pr} (hP : PE sb s j limit x) (hM : Top M s) (hF : Fr s sb []) (hm : ∀ i, (x.h i).May) (hl : 1 ≤ limit ∧ limit ≤ 2147483647) (hb : x.notes ≤ 800000) (i : Bool) :
    ∃ s2, ACall Try.prog 24 [.pointer (some ⟨j, 0, none⟩), .int .i64 (iv i), .agg #[.int .i64 kind, .int .i64 a, .int .i64 b, .int .i64 n, .int .i64 w]] s undef s2 ∧ PE sb s2 j limit (onWay limit x i kind n) ∧ Top (M + 10) s2 ∧ Fr s2 sb [] ∧ Ext s2 s := by
  obtain ⟨v0, v1, o0, o1, h⟩ := hP
  by_cases hc : (x.w i).length = 0 ∨ kind < 2 ∨ 5 < kind
  · have e : onWay limit x i kind n = x := by unfold onWay; rw [if_pos hc]
    rw [e]
    refine ⟨s, ?_, ⟨v0, v1, o0, o1, h⟩, hM.mono (by omega), hF, Ext.refl s⟩
    cases i with
    | false => exact on_skip0 h hc
    | true => exact on_skip1 h hc
  · have h1 : (x.w i).length ≠ 0 := fun e => hc (.inl e)
    have h2 : ¬ kind < 2 := fun e => hc (.inr (.inl e))
    have h3 : ¬ 5 < kind := fun e => hc (.inr (.inr e))
    clear hc
    rcases (show kind = 2 ∨ kind = 3 ∨ kind = 4 ∨ kind = 5 by omega) with rfl | rfl | rfl | rfl
    · cases i with
      | false => exact on_come0 h hM hF h1 hb hm hl
      | true => exact on_come1 h hM hF h1 hb hm hl
    · cases i with
      | false => exact on_drop0 h hM hF h1 hb
      | true => exact on_drop1 h hM hF h1 hb
    · cases i with
      | false => exact on_twice0 h hM hF h1 hb
      | true => exact on_twice1 h hM hF h1 hb
    · cases i with
      | false => exact on_late0 h hM hF h1 hb
      | true => exact on_late1 h hM hF h1 hb
theorem PH.tick0 {t1 t2 : TypeId} {sb s s' : AHeap} {j M M2 : Nat} {limit : Int} {x : Pr} {v0 v1 v2 : Value} {o0 o1 : Option Nat} {nt : Note} {d : List (Nat × ABlk)} (h : PH sb s j limit x v0 v1 o0 o1) (hM : Top M s) (hF : Fr s sb []) (ha : ∀ i, i < M → s' i = s i) (h2 : M ≤ M2) (hT : Top M2 s') (hF' : Fr s' sb [])
    (hW : Wapp Try.prog t1 t2 s 2 1 M2 (nc x.w0) [.bool nt.1, .int .i64 nt.2] v0 o0 x.w0.length v2 d) :
    At (updH s' d) j (.cells true 1 (pc limit x.h0 x.h1 v0 v1)) ∧ PE sb ((updH s' d).set j (.cells true 1 (pc limit x.h0 x.h1 v2 v1))) j limit ⟨x.h0, x.h1, x.w0 ++ [nt], x.w1⟩ ∧ Top (M2 + 1) ((updH s' d).set j (.cells true 1 (pc limit x.h0 x.h1 v2 v1))) ∧ Fr ((updH s' d).set j (.cells true 1 (pc limit x.h0 x.h1 v2 v1))) sb [] ∧ v2.cells = #[v2] ∧ notTup v2 = true := by
  have hj := hM.lt h.p
  have hlt := h.w0.w.lt hM
  have hlt2 := h.w1.w.lt hM
  obtain ⟨o2, hw2, ho2⟩ := hW.at2 s' (fun i e => ha i (hlt i e)) (hT.none (Nat.le_refl _))
  have hjd : j ∉ d.map (·.1) := fun e => by
    rcases hW.names j e with e | e
    · exact (h.w0.own j e).2 rfl
    · omega
  have hpl := hW.pl (nc_pl _) rfl h.w0.pl
  have hjo : ∀ q, o2 = some q → q ≠ j := fun q e => by
    rcases ho2 with e2 | e2
    · rw [e2] at e; exact (h.w0.own q e).2
    · rw [e2] at e; obtain rfl := Option.some.inj e; omega
  have hsb : ∀ i, M ≤ i → sb i = none := fun i hi => top_sb hM hF hi
  have hdn : ∀ i ∈ d.map (·.1), sb i = none := fun i hi => by
    rcases hW.names i hi with e | e
    · exact (h.w0.own i e).1
    · subst e; exact hsb _ h2
  have hat : At s' j (.cells true 1 (pc limit x.h0 x.h1 v0 v1)) := by unfold At; rw [ha j hj]; exact h.p.eq
  have new : Way sb ((updH s' d).set j (.cells true 1 (pc limit x.h0 x.h1 v2 v1))) j v2 o2 (x.w0 ++ [nt]) := by
    refine ⟨?_, fun q e => ⟨?_, hjo q e⟩, fun o cs e hc => ?_⟩
    · have := hw2.of_at (s' := (updH s' d).set j (.cells true 1 (pc limit x.h0 x.h1 v2 v1))) (fun o e => AHeap.set_other _ _ (hjo o e))
      rw [List.length_append, nc_append]; exact this
    · rcases ho2 with e2 | e2
      · rw [e2] at e; exact (h.w0.own q e).1
      · rw [e2] at e; obtain rfl := Option.some.inj e; exact hsb _ h2
    · have hc' : At (updH s' d) o (.cells true 2 cs) := by unfold At at *; rw [AHeap.set_other _ _ (hjo o e)] at hc; exact hc
      refine pl_at hpl hc' (fun hx => ?_)
      rcases ho2 with e2 | e2
      · rw [e2] at e; exact h.w0.pl o cs e (by unfold At at *; rw [ha o (hlt o e)] at hx; exact hx)
      · rw [e2] at e; obtain rfl := Option.some.inj e; have := hx.eq; rw [hT.none (Nat.le_refl _)] at this; cases this
  have old : Way sb ((updH s' d).set j (.cells true 1 (pc limit x.h0 x.h1 v2 v1))) j v1 o1 x.w1 := h.w1.of fun o e => by
    rw [AHeap.set_other _ _ (h.w1.own o e).2, updH_out (fun e2 => by
      rcases hW.names o e2 with e3 | e3
      · exact h.ap o e3 e
      · have := hlt2 o e; omega), ha o (hlt2 o e)]
  refine ⟨At.upd hat hjd, ⟨_, _, _, _, ⟨h.j0, At.hit, new, old, ?_⟩⟩, ?_, ?_, hw2.val⟩
  · intro q e e3
    rcases ho2 with e2 | e2
    · exact h.ap q (e2 ▸ e) e3
    · rw [e2] at e; obtain rfl := Option.some.inj e; have := hlt2 _ e3; omega
  · intro i hi
    rw [AHeap.set_other _ _ (by omega), updH_out (fun e => by
      rcases hW.names i e with e | e
      · have := hlt i e; omega
      · omega)]
    exact hT i (by omega)
  · intro i hi c hc
    rw [AHeap.set_other _ _ (fun e => by subst e; rw [h.j0] at hc; cases hc), updH_out (fun e => by rw [hdn i e] at hc; cases hc)]
    exact hF' i hi c hc
theorem PH.tick1 {t1 t2 : TypeId} {sb s s' : AHeap} {j M M2 : Nat} {limit : Int} {x : Pr} {v0 v1 v2 : Value} {o0 o1 : Option Nat} {nt : Note} {d : List (Nat × ABlk)} (h : PH sb s j limit x v0 v1 o0 o1) (hM : Top M s) (hF : Fr s sb []) (ha : ∀ i, i < M → s' i = s i) (h2 : M ≤ M2) (hT : Top M2 s') (hF' : Fr s' sb [])
    (hW : Wapp Try.prog t1 t2 s 2 1 M2 (nc x.w1) [.bool nt.1, .int .i64 nt.2] v1 o1 x.w1.length v2 d) :
    At (updH s' d) j (.cells true 1 (pc limit x.h0 x.h1 v0 v1)) ∧ PE sb ((updH s' d).set j (.cells true 1 (pc limit x.h0 x.h1 v0 v2))) j limit ⟨x.h0, x.h1, x.w0, x.w1 ++ [nt]⟩ ∧ Top (M2 + 1) ((updH s' d).set j (.cells true 1 (pc limit x.h0 x.h1 v0 v2))) ∧ Fr ((updH s' d).set j (.cells true 1 (pc limit x.h0 x.h1 v0 v2))) sb [] ∧ v2.cells = #[v2] ∧ notTup v2 = true := by
  have hj := hM.lt h.p
  have hlt := h.w1.w.lt hM
  have hlt2 := h.w0.w.lt hM
  obtain ⟨o2, hw2, ho2⟩ := hW.at2 s' (fun i e => ha i (hlt i e)) (hT.none (Nat.le_refl _))
  have hjd : j ∉ d.map (·.1) := fun e => by
    rcases hW.names j e with e | e
    · exact (h.w1.own j e).2 rfl
    · omega
  have hpl := hW.pl (nc_pl _) rfl h.w1.pl
  have hjo : ∀ q, o2 = some q → q ≠ j := fun q e => by
    rcases ho2 with e2 | e2
    · rw [e2] at e; exact (h.w1.own q e).2
    · rw [e2] at e; obtain rfl := Option.some.inj e; omega
  have hsb : ∀ i, M ≤ i → sb i = none := fun i hi => top_sb hM hF hi
  have hdn : ∀ i ∈ d.map (·.1), sb i = none := fun i hi => by
    rcases hW.names i hi with e | e
    · exact (h.w1.own i e).1
    · subst e; exact hsb _ h2
  have hat : At s' j (.cells true 1 (pc limit x.h0 x.h1 v0 v1)) := by unfold At; rw [ha j hj]; exact h.p.eq
  have new : Way sb ((updH s' d).set j (.cells true 1 (pc limit x.h0 x.h1 v0 v2))) j v2 o2 (x.w1 ++ [nt]) := by
    refine ⟨?_, fun q e => ⟨?_, hjo q e⟩, fun o cs e hc => ?_⟩
    · have := hw2.of_at (s' := (updH s' d).set j (.cells true 1 (pc limit x.h0 x.h1 v0 v2))) (fun o e => AHeap.set_other _ _ (hjo o e))
      rw [List.length_append, nc_append]; exact this
    · rcases ho2 with e2 | e2
      · rw [e2] at e; exact (h.w1.own q e).1
      · rw [e2] at e; obtain rfl := Option.some.inj e; exact hsb _ h2
    · have hc' : At (updH s' d) o (.cells true 2 cs) := by unfold At at *; rw [AHeap.set_other _ _ (hjo o e)] at hc; exact hc
      refine pl_at hpl hc' (fun hx => ?_)
      rcases ho2 with e2 | e2
      · rw [e2] at e; exact h.w1.pl o cs e (by unfold At at *; rw [ha o (hlt o e)] at hx; exact hx)
      · rw [e2] at e; obtain rfl := Option.some.inj e; have := hx.eq; rw [hT.none (Nat.le_refl _)] at this; cases this
  have old : Way sb ((updH s' d).set j (.cells true 1 (pc limit x.h0 x.h1 v0 v2))) j v0 o0 x.w0 := h.w0.of fun o e => by
    rw [AHeap.set_other _ _ (h.w0.own o e).2, updH_out (fun e2 => by
      rcases hW.names o e2 with e3 | e3
      · exact h.ap o e e3
      · have := hlt2 o e; omega), ha o (hlt2 o e)]
  refine ⟨At.upd hat hjd, ⟨_, _, _, _, ⟨h.j0, At.hit, old, new, ?_⟩⟩, ?_, ?_, hw2.val⟩
  · intro q e e3
    rcases ho2 with e2 | e2
    · exact h.ap q e (e2 ▸ e3)
    · rw [e2] at e3; obtain rfl := Option.some.inj e3; have := hlt2 _ e; omega
  · intro i hi
    rw [AHeap.set_other _ _ (by omega), updH_out (fun e => by
      rcases hW.names i e with e | e
      · have := hlt i e; omega
      · omega)]
    exact hT i (by omega)
  · intro i hi c hc
    rw [AHeap.set_other _ _ (fun e => by subst e; rw [h.j0] at hc; cases hc), updH_out (fun e => by rw [hdn i e] at hc; cases hc)]
    exact hF' i hi c hc
theorem run_nil (limit : Int) (x : Pr) : run limit x [] = x := rfl
theorem PE.of {sb s : AHeap} {j : Nat} {limit : Int} {x : Pr} {v0 v1 : Value} {o0 o1 : Option Nat} (h : PH sb s j limit x v0 v1 o0 o1) : PE sb s j limit x := ⟨_, _, _, _, h⟩
end Go.Proofs.Ytdjbpnpfgabdjaa
