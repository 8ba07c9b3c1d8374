/- texts of this claim, one behind the other: LX. -/
import Derived.Test.YtoiplbackllgfaaM15
import Derived.Test.YtoiplbackllgfaaM22
import Derived.Test.YtoiplbackllgfaaRows

/- lines: what comes in. -/
namespace Go.Proofs.Ytoiplbackllgfaa
set_option linter.unusedVariables false
set_option linter.unusedSimpArgs false
set_option linter.unusedSectionVars false
open Go.RowKit Go.WideShapes Ab
theorem in_bytes {W : World} : Opens Try.prog W 31 1 (fun b c l => ∃ v, c = [v] ∧ Bt b v l) (fun l => l.length * 1 ≤ reachBytes ∧ ∀ x ∈ l, True) :=
  opens_slice (R := fun _ => RB) Try.underlying31 (by kernel_rfl) ⟨fun _ _ _ _ _ h => h, fun b c x h y hy => by rw [h.1, List.mem_singleton] at hy; subst hy; trivial, by decide⟩ (by kernel_rfl) (opens_byte Try.underlying5)
theorem in_queue {W : World} : Opens Try.prog W 24 1 (fun b c q => ∃ v, c = [v] ∧ Qt b v q) (fun q => q.length * 24 ≤ reachBytes ∧ ∀ l ∈ q, l.length * 1 ≤ reachBytes ∧ ∀ x ∈ l, True) :=
  opens_slice (R := RQ) Try.underlying24 (by kernel_rfl) datQ (by kernel_rfl) in_bytes
theorem sized_of {q : List (List Int)} (h : q.length * 24 ≤ reachBytes ∧ ∀ l ∈ q, l.length * 1 ≤ reachBytes ∧ ∀ x ∈ l, True) : Sized q := by
  have e : reachBytes = 140737488351232 := by decide
  rw [e] at h
  exact ⟨by omega, fun x hx => by have := (h.2 x hx).1; omega⟩
theorem list5v {l : List Value} (h : l.length = 5) : ∃ a b c d e, l = [a, b, c, d, e] := by
  match l, h with
  | [a, b, c, d, e], _ => exact ⟨a, b, c, d, e, rfl⟩
theorem list10v {l : List Value} (h : l.length = 10) : ∃ a b c d e f g i j k, l = [a, b, c, d, e, f, g, i, j, k] := by
  match l, h with
  | [a, b, c, d, e, f, g, i, j, k], _ => exact ⟨a, b, c, d, e, f, g, i, j, k, rfl⟩
def sizedF (l : List Int) : Prop := l.length ≤ 140737488355328
theorem in_frame {W : World} : Opens Try.prog W 33 5 RF (fun f => sizedF f.pay) := by
  intro H enc base held fuel cs y h hw L hL
  obtain ⟨a, b, c, d, e, rfl⟩ := list5v (fld_len Try.underlying33 h (by kernel_rfl))
  obtain ⟨n0, e0, _⟩ := fld_int Try.underlying33 h 0 rfl (by kernel_rfl) Try.underlying3
  obtain ⟨n1, e1, _⟩ := fld_int Try.underlying33 h 1 rfl (by kernel_rfl) Try.underlying3
  obtain ⟨n2, e2, _⟩ := fld_int Try.underlying33 h 2 rfl (by kernel_rfl) Try.underlying3
  obtain ⟨n3, e3, _⟩ := fld_int Try.underlying33 h 3 rfl (by kernel_rfl) Try.underlying3
  obtain ⟨n, y', h4, hw4⟩ := fldW Try.underlying33 h hw 4 rfl (m := 1) (by kernel_rfl)
  obtain ⟨L1, cs', l, hL1, hV, _, ⟨v, rfl, hR⟩, hS⟩ := in_bytes enc base held n _ _ h4 hw4 L hL
  simp at e0 e1 e2 e3
  subst e0; subst e1; subst e2; subst e3
  have er : reachBytes = 140737488351232 := by decide
  refine ⟨L1, [.int .i64 n0, .int .i64 n1, .int .i64 n2, .int .i64 n3, v], ⟨n0, n1, n2, n3, l⟩, hL1, .cons (.a (.int _ _)) (.cons (.a (.int _ _)) (.cons (.a (.int _ _)) (.cons (.a (.int _ _)) ?_))), rfl, ⟨v, rfl, hR⟩, ?_⟩
  · exact hV
  · have := hS.1; rw [er] at this; show l.length ≤ _; omega
set_option maxRecDepth 100000 in
theorem line_in {W : World} {base : Nat} {H : Type} {enc : TypeId × Value → H} {b0 : Nat} {held : Bool} {v : Value} {d : DataW H} {ps : List MemPlace} (hv : Value.okWide Try.prog W .any base 30 v)
    (h : DataW.Trod enc Try.prog W b0 (fun _ => true) held 30 v d ps) (hw : ∀ n ∈ d.weights Try.prog 30, n ≤ reachBytes) {L : List (Ab.Loc × List Value)} (hL : OkV W L) :
    ∃ L1 last cur prop over base sent w clock next owes q, OkV W (L ++ L1) ∧ VR (roR (L ++ L1)) (.agg (lna last cur prop over base sent w clock next owes).toArray) v ∧ Qt (roH (L ++ L1)) w q ∧ Sized q := by
  obtain ⟨fuel, ht⟩ := h
  unfold Value.okWide at hv
  rw [Try.underlying30] at hv
  obtain ⟨cs, rfl, _⟩ := hv
  have ht : DataW.trod enc Try.prog W b0 (fun _ => true) held fuel 30 cs.toList = some (d, ps) := ht
  obtain ⟨a, b, c, d', e, f, g, i, j, k, hk⟩ := list10v (fld_len Try.underlying30 ht (by kernel_rfl))
  obtain rfl : cs = [a, b, c, d', e, f, g, i, j, k].toArray := by apply Array.ext'; simpa using hk
  obtain ⟨m0, y0, h0, w0⟩ := fldW Try.underlying30 ht hw 0 rfl (m := 4) (by kernel_rfl)
  obtain ⟨m1, y1, h1, w1⟩ := fldW Try.underlying30 ht hw 1 rfl (m := 4) (by kernel_rfl)
  obtain ⟨m2, y2, h2, w2⟩ := fldW Try.underlying30 ht hw 2 rfl (m := 2) (by kernel_rfl)
  obtain ⟨n0, e0, _⟩ := fld_int Try.underlying23 h0 0 rfl (by kernel_rfl) Try.underlying3
  obtain ⟨n1, e1, _⟩ := fld_int Try.underlying23 h0 1 rfl (by kernel_rfl) Try.underlying3
  obtain ⟨n2, e2, _⟩ := fld_int Try.underlying23 h0 2 rfl (by kernel_rfl) Try.underlying3
  obtain ⟨n3, e3⟩ := fld_bool Try.underlying23 h0 3 rfl (by kernel_rfl) Try.underlying4
  obtain ⟨n4, e4, _⟩ := fld_int Try.underlying26 h1 0 rfl (by kernel_rfl) Try.underlying3
  obtain ⟨n5, e5, _⟩ := fld_int Try.underlying26 h1 1 rfl (by kernel_rfl) Try.underlying3
  obtain ⟨m6, y6, h6, w6⟩ := fldW Try.underlying26 h1 w1 2 rfl (m := 1) (by kernel_rfl)
  obtain ⟨n7, e7, _⟩ := fld_int Try.underlying26 h1 3 rfl (by kernel_rfl) Try.underlying3
  obtain ⟨n8, e8, _⟩ := fld_int Try.underlying28 h2 0 rfl (by kernel_rfl) Try.underlying3
  obtain ⟨n9, e9⟩ := fld_bool Try.underlying28 h2 1 rfl (by kernel_rfl) Try.underlying4
  obtain ⟨L1, cs', q, hL1, hV, _, ⟨w, rfl, hR⟩, hS⟩ := in_queue enc b0 held m6 _ _ h6 w6 L hL
  simp at e0 e1 e2 e3 e4 e5 e7 e8 e9
  subst e0; subst e1; subst e2; subst e3; subst e4; subst e5; subst e7; subst e8; subst e9
  refine ⟨L1, n0, n1, n2, n3, n4, n5, w, n7, n8, n9, q, hL1, .v (.agg ?_), hR, sized_of hS⟩
  cases hV with
  | cons hx _ =>
    exact .cons (.a (.int _ _)) (.cons (.a (.int _ _)) (.cons (.a (.int _ _)) (.cons (.a (.bool _)) (.cons (.a (.int _ _)) (.cons (.a (.int _ _)) (.cons hx (.cons (.a (.int _ _)) (.cons (.a (.int _ _)) (.cons (.a (.bool _)) .nil)))))))))
set_option maxRecDepth 100000 in
theorem frame_in {W : World} {base : Nat} {H : Type} {enc : TypeId × Value → H} {b0 : Nat} {held : Bool} {v : Value} {d : DataW H} {ps : List MemPlace} (hv : Value.okWide Try.prog W .any base 33 v)
    (h : DataW.Trod enc Try.prog W b0 (fun _ => true) held 33 v d ps) (hw : ∀ n ∈ d.weights Try.prog 33, n ≤ reachBytes) {L : List (Ab.Loc × List Value)} (hL : OkV W L) :
    ∃ L1 kind ses seq ack w p, OkV W (L ++ L1) ∧ VR (roR (L ++ L1)) (.agg #[.int .i64 kind, .int .i64 ses, .int .i64 seq, .int .i64 ack, w]) v ∧ Bt (roH (L ++ L1)) w p ∧ sizedF p := by
  obtain ⟨fuel, ht⟩ := h
  unfold Value.okWide at hv
  rw [Try.underlying33] at hv
  obtain ⟨cs, rfl, _⟩ := hv
  have ht : DataW.trod enc Try.prog W b0 (fun _ => true) held fuel 33 cs.toList = some (d, ps) := ht
  obtain ⟨L1, cs', f, hL1, hV, _, ⟨w, rfl, hR⟩, hS⟩ := in_frame enc b0 held fuel _ _ ht hw L hL
  exact ⟨L1, _, _, _, _, w, _, hL1, .v (.agg hV), hR, hS⟩
set_option maxRecDepth 100000 in
theorem pay_in {W : World} {base : Nat} {H : Type} {enc : TypeId × Value → H} {b0 : Nat} {held : Bool} {v : Value} {d : DataW H} {ps : List MemPlace} (hv : Value.okWide Try.prog W .any base 31 v)
    (h : DataW.Trod enc Try.prog W b0 (fun _ => true) held 31 v d ps) (hw : ∀ n ∈ d.weights Try.prog 31, n ≤ reachBytes) {L : List (Ab.Loc × List Value)} (hL : OkV W L) :
    ∃ L1 v' l, OkV W (L ++ L1) ∧ VR (roR (L ++ L1)) v' v ∧ Bt (roH (L ++ L1)) v' l :=
  have ⟨L1, v', l, h1, h2, h3, _⟩ := slice_get (R := fun _ => RB) Try.underlying31 in_bytes hv h hw hL
  ⟨L1, v', l, h1, h2, h3⟩
set_option maxRecDepth 100000 in
theorem in_frames {W : World} : Opens Try.prog W 36 1 (fun b c q => ∃ v, c = [v] ∧ Sl b 5 (RF b) v q) (fun q => q.length * 56 ≤ reachBytes ∧ ∀ f ∈ q, sizedF f.pay) :=
  opens_slice (R := RF) Try.underlying36 (by kernel_rfl) datF (by kernel_rfl) in_frame
set_option maxRecDepth 100000 in
theorem frames_in {W : World} {base : Nat} {H : Type} {enc : TypeId × Value → H} {b0 : Nat} {held : Bool} {v : Value} {d : DataW H} {ps : List MemPlace} (hv : Value.okWide Try.prog W .any base 36 v)
    (h : DataW.Trod enc Try.prog W b0 (fun _ => true) held 36 v d ps) (hw : ∀ n ∈ d.weights Try.prog 36, n ≤ reachBytes) {L : List (Ab.Loc × List Value)} (hL : OkV W L) :
    ∃ L1 v' l, OkV W (L ++ L1) ∧ VR (roR (L ++ L1)) v' v ∧ Sl (roH (L ++ L1)) 5 (RF (roH (L ++ L1))) v' l :=
  have ⟨L1, v', l, h1, h2, h3, _⟩ := slice_get Try.underlying36 in_frames hv h hw hL
  ⟨L1, v', l, h1, h2, h3⟩
end Go.Proofs.Ytoiplbackllgfaa
