/- A copy into a row of the call's own, of what is read: the row behind it. -/
import Derived.Test.YtedpjakmlniodaaWMore
import Derived.Laws.CopyOwn
set_option linter.unusedVariables false
namespace Go.Proofs.Ytedpjakmlniodaa.CopyLib
open Go Go.RowKit Go.Proofs.YtedpjakmlniodaaW.PrintWords

section
variable {P : Program} {ops : Array Oper} {rest : List Oper} {o : Oper} {a : Act} {Q : Exit → Act → World → Prop}
theorem inner_of {k : IntKind} {w : World} {base : Nat} {ok : Nat → Prop} {xs : List Int} {inner : List Value} (h : Reps ((Kd.int k).M w base ok) (Kd.int k).sz xs inner) : inner = xs.map (Value.int k) := by
  have hl : inner.length = xs.length := by rw [h.1]; exact Nat.mul_one _
  apply List.ext_getElem (by rw [hl, List.length_map])
  intro j h1 h2
  have hj : j < xs.length := by omega
  have := h.2 j xs[j] (List.getElem?_eq_getElem hj)
  have e : (inner.drop (j * 1)).take 1 = [Value.int k xs[j]] := this
  rw [Nat.mul_one, List.drop_eq_getElem_cons h1] at e
  simp only [List.take_succ_cons, List.take_zero, List.cons.injEq, and_true] at e
  rw [e, List.getElem_map]
theorem reps_of (k : IntKind) (w : World) (base : Nat) (ok : Nat → Prop) (xs : List Int) : Reps ((Kd.int k).M w base ok) (Kd.int k).sz xs (xs.map (Value.int k)) := by
  refine ⟨by rw [List.length_map]; exact (Nat.mul_one _).symm, fun j p hj => ?_⟩
  obtain ⟨h, rfl⟩ := List.getElem?_eq_some_iff.1 hj
  show ((xs.map (Value.int k)).drop (j * 1)).take 1 = [Value.int k xs[j]]
  rw [Nat.mul_one, List.drop_eq_getElem_cons (by rw [List.length_map]; exact h)]
  simp
theorem grown_setRow (W : World) (g : Nat) (cs : Array Value) : W.grownBy (W.setRow g cs) (some g) :=
  ⟨rfl, rfl, rfl, by simp [World.setRow], fun k _ hne => setRow_other W g k cs (fun e => hne (by rw [e]))⟩
theorem R_copy_rows (k : IntKind) {w0 W : World} (base : Nat) (hgd : o.guard = none) (s x : Operand) (t e : TypeId) (ho : o.op = .call { callee := .builtin .copy, args := #[s, x], argTypes := #[t, t] }) (ht : P.underlying t = some (.slice e)) {z : Option Value} {by_ : Nat} (hinfo : (P.info? e).map (fun i => (i.zero, i.size, i.bytes)) = some (z, 1, by_))
    (v : Value) (xs ys : List Int) (A : Option Addr) (m c : Nat) (ok : Nat → Prop) (hs : a.eval s = v) (hx : a.eval x = .slice A m c) (HO : (Kd.int k).R e W base ok v xs) (HR : (Kd.int k).C W A m ys) (HB : Below base w0 W)
    (h : ∀ w1, (Kd.int k).R e w1 base ok v (ys.take xs.length ++ xs.drop ys.length) → Below base w0 w1 → W.grownBy w1 v.ownBlock → wpList P ops Q rest (a.put o.dst (goInt (Nat.min m xs.length))) w1) : wpList P ops Q (o :: rest) a W := by
  have hsz : (P.info? e).map (·.size) = some 1 := by
    obtain ⟨i0, hi, hz⟩ := Option.map_eq_some_iff.1 hinfo
    rw [hi]
    exact congrArg (fun q => some q.2.1) hz
  have hm : ys.length = m := HR.1
  have HO' := HO
  obtain ⟨hok, inner, ⟨hil, hown⟩, hr⟩ := HO
  have hin := inner_of hr
  have stay : Nat.min m xs.length = 0 → ys.take xs.length ++ xs.drop ys.length = xs := fun h0 => by
    have h0' : min m xs.length = 0 := h0
    rcases Nat.eq_zero_or_pos m with hz | hz
    · obtain rfl : ys = [] := List.eq_nil_of_length_eq_zero (by omega)
      simp
    · obtain rfl : xs = [] := List.eq_nil_of_length_eq_zero (by omega)
      simp
  by_cases h0 : Nat.min m xs.length = 0
  · have hh := h W (by rw [stay h0]; exact HO') HB (World.grownBy.refl W _)
    rw [h0] at hh
    rcases hown with ⟨rfl, hn⟩ | ⟨g, cap, cur, rfl, hbg, hg, hnc, hcm, hcs, hct⟩
    · exact wpList_copy_nothing hgd s x t t ho e ht hsz none A 0 0 m c hs hx (by show min m 0 = 0; omega) hh
    · exact wpList_copy_nothing hgd s x t t ho e ht hsz _ A xs.length cap m c hs hx h0 hh
  · have h0' : min m xs.length ≠ 0 := h0
    rcases hown with ⟨rfl, hn⟩ | ⟨g, cap, cur, rfl, hbg, hg, hnc, hcm, hcs, hct⟩
    · omega
    obtain ⟨ad, rfl, hcell⟩ := HR.2.2 (by omega)
    have hcs1 : cur.size = cap := by rw [hcs]; exact Nat.mul_one _
    have hct1 : cur.toList.take xs.length = xs.map (Value.int k) := by rw [← hin, ← hct]; first | done | exact congrArg (fun q => cur.toList.take q) (Nat.mul_one _).symm
    have hcl : ((ys.take xs.length).map (Value.int k)).length = min m xs.length := by rw [List.length_map, List.length_take]; omega
    refine wpList_copy_own hgd s x t t ho e ht hsz g 0 xs.length cap ad m c hs hx cur e hg ((ys.take xs.length).map (Value.int k)) hcl ?_ (by rw [hcl]; omega) ?_ ?_
    · intro j u hu
      obtain ⟨hj, rfl⟩ := List.getElem?_eq_some_iff.1 hu
      rw [hcl] at hj
      have hjy : j < ys.length := by omega
      obtain ⟨cl, _, hK, hc⟩ := hcell j ys[j] (List.getElem?_eq_getElem hjy)
      have hK' : cl = [Value.int k ys[j]] := hK
      subst hK'
      have := hc 0 _ rfl
      rw [show j * (Kd.int k).sz + 0 = j from by show j * 1 + 0 = j; omega] at this
      rw [this, List.getElem_map, List.getElem_take]
    · intro u hu
      obtain ⟨q, _, rfl⟩ := List.mem_map.1 hu
      rfl
    · have hlen : (ys.take xs.length ++ xs.drop ys.length).length = xs.length := by rw [List.length_append, List.length_take, List.length_drop]; omega
      rw [hcl]
      refine h _ ⟨hok, (ys.take xs.length ++ xs.drop ys.length).map (Value.int k), ⟨by rw [List.length_map]; exact (Nat.mul_one _).symm, .inr ⟨g, cap, _, by rw [hlen], hbg, setRow_heap W g _ _ e _ hg, by omega, hcm, ?_, ?_⟩⟩, reps_of k _ _ _ _⟩ (below_setRow HB hbg _) (grown_setRow W g _)
      · have hcz : cur.toList.length = cap := by rw [Array.length_toList]; exact hcs1
        show (_ : List Value).length = cap * 1
        rw [List.length_append, List.length_append, List.length_take, List.length_drop, hcl, hcz]
        omega
      · show (_ : List Value).take (_ * 1) = _
        rw [Nat.mul_one, hlen, List.toList_toArray, List.take_zero, List.nil_append, List.take_append, hcl, List.map_append]
        have e1 : ((ys.take xs.length).map (Value.int k)).take xs.length = (ys.take xs.length).map (Value.int k) := List.take_of_length_le (by rw [hcl]; omega)
        have e2 : (cur.toList.drop (0 + min m xs.length)).take (xs.length - min m xs.length) = (xs.drop ys.length).map (Value.int k) := by
          rw [Nat.zero_add, ← List.drop_take, hct1, ← List.map_drop]
          congr 1
          rw [hm]
          rcases Nat.le_total m xs.length with h4 | h4
          · rw [Nat.min_eq_left h4]
          · rw [Nat.min_eq_right h4, List.drop_of_length_le (Nat.le_refl _), List.drop_of_length_le h4]
        rw [e1, e2]
end
end Go.Proofs.Ytedpjakmlniodaa.CopyLib
