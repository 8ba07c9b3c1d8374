/- trees: edges that come in. -/
import Derived.Test.YtnbgeodignljfaaAbO
import Derived.Test.YtnbgeodignljfaaTB
namespace Go.Proofs.Ytnbgeodignljfaa
set_option linter.unusedVariables false
set_option linter.unusedSimpArgs false
set_option linter.unusedSectionVars false
open Go.RowKit Go.WideShapes Ab TP
theorem list3 {l : List Value} (h : l.length = 3) : ∃ a b c, l = [a, b, c] := by
  match l, h with
  | [a, b, c], _ => exact ⟨a, b, c, rfl⟩
theorem flat32 {w : World} : Flat Try.prog w 32 (fun e : E => ec e) (fun _ => True) := by
  intro H enc base spare held fuel cs y h
  obtain ⟨a, b, c, rfl⟩ := list3 (fld_len Try.underlying32 h (by kernel_rfl))
  obtain ⟨n0, e0, _⟩ := fld_int Try.underlying32 h 0 rfl (by kernel_rfl) Try.underlying3
  obtain ⟨n1, e1, _⟩ := fld_int Try.underlying32 h 1 rfl (by kernel_rfl) Try.underlying3
  obtain ⟨n2, e2, _⟩ := fld_int Try.underlying32 h 2 rfl (by kernel_rfl) Try.underlying3
  simp at e0 e1 e2
  subst e0; subst e1; subst e2
  exact ⟨⟨n0, n1, n2⟩, rfl, trivial⟩
theorem edges_in {W : World} {base : Nat} {H : Type} {enc : TypeId × Value → H} {b0 : Nat} {sp : Nat → Bool} {held : Bool} {v : Value} {d : DataW H} {ps : List MemPlace} (hv : Value.okWide Try.prog W .any base 22 v)
    (h : DataW.Trod enc Try.prog W b0 sp held 22 v d ps) {L : List (Ab.Loc × List Value)} (hL : Okl W L) :
    ∃ L1 A n c on l, Okl W (L ++ L1) ∧ VR (roR (L ++ L1)) (.slice A n c) v ∧ EA (roH (L ++ L1)) (.slice A n c) on l := by
  obtain ⟨fuel, ht⟩ := h
  have hv' : Cell.okWide Try.prog W .any base 22 v := by
    unfold Value.okWide at hv
    rw [Try.underlying22] at hv; exact hv
  have hc : v.cells = #[v] := by
    unfold Cell.okWide Cell.ok at hv'
    rw [Try.underlying22] at hv'
    cases v <;> first | rfl | exact hv'.elim
  have ht' : DataW.trod enc Try.prog W b0 sp held fuel 22 [v] = some (d, ps) := by
    have : v.cells.toList = [v] := by rw [hc]
    rw [← this]; exact ht
  obtain ⟨L1, v1, xs, hL1, hv1, _, hx1⟩ := slice_in (m := 3) Try.underlying22 (by kernel_rfl) (fun x _ => rfl) (fun x _ => rfl) flat32 hv' ht' hL
  rcases hx1 with ⟨rfl, rfl⟩ | ⟨o, c, rfl, hc, ha⟩
  · exact ⟨L1, none, 0, 0, none, [], hL1, .v (.v (.a hv1)), .nil⟩
  · exact ⟨L1, _, _, c, some o, xs, hL1, .v (.v (.a hv1)), .blk ha hc (by rw [← ecs_length]; exact List.take_length)⟩
theorem edge_in {W : World} {base : Nat} {H : Type} {enc : TypeId × Value → H} {b0 : Nat} {sp : Nat → Bool} {held : Bool} {v : Value} {d : DataW H} {ps : List MemPlace} (hv : Value.okWide Try.prog W .any base 32 v)
    (h : DataW.Trod enc Try.prog W b0 sp held 32 v d ps) : ∃ e, v = .agg (ec e).toArray := by
  obtain ⟨fuel, ht⟩ := h
  unfold Value.okWide at hv
  rw [Try.underlying32] at hv
  obtain ⟨cs, rfl, _⟩ := hv
  obtain ⟨e, he, _⟩ := flat32 enc b0 sp held fuel cs.toList _ ht
  exact ⟨e, by congr 1; exact Array.toList_inj.1 (by simpa using he)⟩
theorem pair_in {W : World} {base : Nat} {H : Type} {enc : TypeId × Value → H} {b0 : Nat} {sp : Nat → Bool} {held : Bool} {v : Value} {d : DataW H} {ps : List MemPlace} (hv : Value.okWide Try.prog W .any base 38 v)
    (h : DataW.Trod enc Try.prog W b0 sp held 38 v d ps) : ∃ x y, v = .agg #[.int .i64 x, .int .i64 y] := by
  obtain ⟨fuel, ht⟩ := h
  unfold Value.okWide at hv
  rw [Try.underlying38] at hv
  obtain ⟨cs, rfl, _⟩ := hv
  obtain ⟨l, he, hl, _⟩ := flat_array (n := 2) (m := 1) Try.underlying38 (by kernel_rfl) (by kernel_rfl) (flat_int Try.underlying3) enc b0 sp held fuel cs.toList _ ht
  match l, hl, he with
  | [x, y], _, he =>
    have : cs.toList = [.int .i64 x, .int .i64 y] := he
    exact ⟨x, y, by congr 1; exact Array.toList_inj.1 this⟩
theorem ec_VR {ρ : Ren} {e : E} : VR ρ (.agg (ec e).toArray) (.agg (ec e).toArray) := .v (.agg (.cons (.a (.int _ _)) (.cons (.a (.int _ _)) (.cons (.a (.int _ _)) .nil))))
end Go.Proofs.Ytnbgeodignljfaa
