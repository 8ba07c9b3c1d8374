/- words that come in. -/
import Derived.Test.YtnkiocnnekgioaaAbO
import Derived.Test.YtnkiocnnekgioaaWE
namespace Go.Proofs.Ytnkiocnnekgioaa
set_option linter.unusedVariables false
set_option linter.unusedSimpArgs false
set_option linter.unusedSectionVars false
open Go.RowKit Go.WideShapes Ab WP
theorem list9 {l : List Value} (h : l.length = 9) : ∃ a b c d e f g i j, l = [a, b, c, d, e, f, g, i, j] := by
  match l, h with
  | [a, b, c, d, e, f, g, i, j], _ => exact ⟨a, b, c, d, e, f, g, i, j, rfl⟩
theorem list5v {l : List Value} (h : l.length = 5) : ∃ a b c d e, l = [a, b, c, d, e] := by
  match l, h with
  | [a, b, c, d, e], _ => exact ⟨a, b, c, d, e, rfl⟩
theorem flat48 {w : World} : Flat Try.prog w 48 (fun k : Kn => kv k) (fun _ => True) := by
  intro H enc base spare held fuel cs y h
  obtain ⟨a, b, c, d, e, rfl⟩ := list5v (fld_len Try.underlying48 h (by kernel_rfl))
  obtain ⟨n0, e0, _⟩ := fld_int Try.underlying48 h 0 rfl (by kernel_rfl) Try.underlying3
  obtain ⟨n1, e1, _⟩ := fld_int Try.underlying48 h 1 rfl (by kernel_rfl) Try.underlying3
  obtain ⟨n2, e2, _⟩ := fld_int Try.underlying48 h 2 rfl (by kernel_rfl) Try.underlying3
  obtain ⟨n3, e3, _⟩ := fld_int Try.underlying48 h 3 rfl (by kernel_rfl) Try.underlying3
  obtain ⟨n4, e4⟩ := fld_bool Try.underlying48 h 4 rfl (by kernel_rfl) Try.underlying4
  simp at e0 e1 e2 e3 e4
  subst e0; subst e1; subst e2; subst e3; subst e4
  exact ⟨⟨n0, n1, n2, n3, n4⟩, rfl, trivial⟩
theorem flat_ints (l : List Int) : (l.flatMap fun n => [Value.int .i64 n]) = ints l := by
  induction l with
  | nil => rfl
  | cons a l ih => rw [List.flatMap_cons, ih]; rfl
theorem flat_bytes8 (l : List Int) : (l.flatMap fun n => [Value.int .u8 n]) = bc l := by
  induction l with
  | nil => rfl
  | cons a l ih => rw [List.flatMap_cons, ih]; rfl
theorem ba_of {s : AHeap} {m n : Nat} {v' : Value} {xs : List Value} (hl : xs.length = n * m) (h : (v' = .slice none 0 0 ∧ n = 0 ∧ xs = []) ∨ ∃ o c, v' = .slice (some ⟨o, 0, none⟩) n c ∧ n ≤ c ∧ At s o (.cells false m xs)) : ∃ on, BA s m v' on n xs := by
  rcases h with ⟨rfl, rfl, rfl⟩ | ⟨o, c, rfl, hc, ha⟩
  · exact ⟨none, .nil⟩
  · exact ⟨some o, .blk ha (by omega) hc (by rw [List.drop_zero, ← hl, List.take_length])⟩
theorem word_in {W : World} {base : Nat} {H : Type} {enc : TypeId × Value → H} {b0 : Nat} {sp : Nat → Bool} {held : Bool} {v : Value} {d : DataW H} {ps : List MemPlace} (hv : Value.okWide Try.prog W .any base 31 v)
    (h : DataW.Trod enc Try.prog W b0 sp held 31 v d ps) {L : List (Ab.Loc × List Value)} (hL : Okl W L) :
    ∃ L1 w vn vl on ol, Okl W (L ++ L1) ∧ VR (roR (L ++ L1)) (.agg (wv w vn vl).toArray) v ∧ WdAt (roH (L ++ L1)) w vn vl on ol := by
  obtain ⟨fuel, ht⟩ := h
  unfold Value.okWide at hv
  rw [Try.underlying31] at hv
  obtain ⟨cs, rfl, hsz, ts, hts, _, hcell⟩ := hv
  have h31 : Try.prog.cellTypes Try.prog.depth 31 = some [3, 3, 3, 24, 25, 3, 3, 3, 3] := by kernel_rfl
  rw [h31] at hts
  obtain rfl := Option.some.inj hts
  have ht' : DataW.trod enc Try.prog W b0 sp held fuel 31 cs.toList = some (d, ps) := ht
  obtain ⟨a, b, c, d0, e, f, g, i, j, hcs⟩ := list9 (fld_len Try.underlying31 ht' (by kernel_rfl))
  obtain rfl : cs = [a, b, c, d0, e, f, g, i, j].toArray := by apply Array.ext'; simpa using hcs
  obtain ⟨n0, e0, _⟩ := fld_int Try.underlying31 ht' 0 rfl (by kernel_rfl) Try.underlying3
  obtain ⟨_, _, hE⟩ := fld Try.underlying31 ht' 1 rfl (m := 2) (by kernel_rfl)
  obtain ⟨_, _, hV⟩ := fld Try.underlying31 ht' 2 rfl (m := 2) (by kernel_rfl)
  obtain ⟨_, _, hC⟩ := fld Try.underlying31 ht' 3 rfl (m := 4) (by kernel_rfl)
  obtain ⟨n1, e1, _⟩ := fld_int Try.underlying23 hE 0 rfl (by kernel_rfl) Try.underlying3
  obtain ⟨n2, e2, _⟩ := fld_int Try.underlying23 hE 1 rfl (by kernel_rfl) Try.underlying3
  obtain ⟨n3, e3, _⟩ := fld_int Try.underlying29 hC 0 rfl (by kernel_rfl) Try.underlying3
  obtain ⟨n4, e4, _⟩ := fld_int Try.underlying29 hC 1 rfl (by kernel_rfl) Try.underlying3
  obtain ⟨n5, e5, _⟩ := fld_int Try.underlying29 hC 2 rfl (by kernel_rfl) Try.underlying3
  obtain ⟨n6, e6, _⟩ := fld_int Try.underlying29 hC 3 rfl (by kernel_rfl) Try.underlying3
  simp at e0 e1 e2 e3 e4 e5 e6
  subst e0; subst e1; subst e2; subst e3; subst e4; subst e5; subst e6
  obtain ⟨_, _, hN⟩ := fld Try.underlying27 hV 0 rfl (m := 1) (by kernel_rfl)
  obtain ⟨_, _, hK⟩ := fld Try.underlying27 hV 1 rfl (m := 1) (by kernel_rfl)
  obtain ⟨u3, hu3, ok3⟩ := hcell 3 d0 rfl
  obtain ⟨u4, hu4, ok4⟩ := hcell 4 e rfl
  obtain rfl := Option.some.inj hu3
  obtain rfl := Option.some.inj hu4
  obtain ⟨L1, v1, xs, hL1, hv1, _, hx1⟩ := slice_in (m := 1) Try.underlying24 (by kernel_rfl) (fun x _ => rfl) (fun x _ => rfl) (flat_int Try.underlying3) ok3 hN hL
  obtain ⟨L2, v2, ys, hL2, hv2, _, hx2⟩ := slice_in (m := 5) Try.underlying25 (by kernel_rfl) (fun x _ => rfl) (fun x _ => rfl) flat48 ok4 hK hL1
  rw [List.append_assoc] at hL2 hv2 hx2
  have hle := roR_le (L ++ L1) L2
  rw [List.append_assoc] at hle
  have hlh : ∀ i b, roH (L ++ L1) i = some b → roH (L ++ (L1 ++ L2)) i = some b := fun i b h => by
    have := roH_le (L1 := L2) i b h; rwa [List.append_assoc] at this
  obtain ⟨on, b1⟩ := ba_of (s := roH (L ++ L1)) (m := 1) (n := xs.length) (v' := v1) (xs := ints xs) (by rw [ints_length, Nat.mul_one]) (by
    rcases hx1 with ⟨p, q⟩ | ⟨o, c, p, q, r⟩
    · exact .inl ⟨p, by rw [q]; rfl, by rw [q]; rfl⟩
    · exact .inr ⟨o, c, p, q, by rw [← flat_ints]; exact r⟩)
  obtain ⟨ol, b2⟩ := ba_of (s := roH (L ++ (L1 ++ L2))) (m := 5) (n := ys.length) (v' := v2) (xs := kc ys) (kc_length _) (by
    rcases hx2 with ⟨p, q⟩ | ⟨o, c, p, q, r⟩
    · exact .inl ⟨p, by rw [q]; rfl, by rw [q]; rfl⟩
    · exact .inr ⟨o, c, p, q, r⟩)
  refine ⟨L1 ++ L2, ⟨n0, n1, n2, xs, ys, ⟨n3, n4, n5, n6⟩⟩, v1, v2, on, ol, hL2, .v (.agg ?_), ⟨b1.ext hlh, b2⟩⟩
  exact .cons (.a (.int _ _)) (.cons (.a (.int _ _)) (.cons (.a (.int _ _)) (.cons (.a (hv1.mono hle)) (.cons (.a hv2) (.cons (.a (.int _ _)) (.cons (.a (.int _ _)) (.cons (.a (.int _ _)) (.cons (.a (.int _ _)) .nil))))))))
theorem bytes_in {W : World} {base : Nat} {H : Type} {enc : TypeId × Value → H} {b0 : Nat} {sp : Nat → Bool} {held : Bool} {v : Value} {d : DataW H} {ps : List MemPlace} (hv : Value.okWide Try.prog W .any base 34 v)
    (h : DataW.Trod enc Try.prog W b0 sp held 34 v d ps) {L : List (Ab.Loc × List Value)} (hL : Okl W L) :
    ∃ L1 v' l on, Okl W (L ++ L1) ∧ VR (roR (L ++ L1)) v' v ∧ BA (roH (L ++ L1)) 1 v' on l.length (bc l) ∧ Bytes l := by
  obtain ⟨fuel, ht⟩ := h
  have hv' : Cell.okWide Try.prog W .any base 34 v := by
    unfold Value.okWide at hv
    rw [Try.underlying34] at hv; exact hv
  have hc : v.cells = #[v] := by
    unfold Cell.okWide Cell.ok at hv'
    rw [Try.underlying34] at hv'
    cases v <;> first | rfl | exact hv'.elim
  have ht' : DataW.trod enc Try.prog W b0 sp held fuel 34 [v] = some (d, ps) := by
    have : v.cells.toList = [v] := by rw [hc]
    rw [← this]; exact ht
  obtain ⟨L1, v1, xs, hL1, hv1, hwf, hx1⟩ := slice_in (m := 1) Try.underlying34 (by kernel_rfl) (fun x _ => rfl) (fun x _ => rfl) (flat_int Try.underlying5) hv' ht' hL
  obtain ⟨on, b1⟩ := ba_of (s := roH (L ++ L1)) (m := 1) (n := xs.length) (v' := v1) (xs := bc xs) (by rw [bc_length, Nat.mul_one]) (by
    rcases hx1 with ⟨p, q⟩ | ⟨o, c, p, q, r⟩
    · exact .inl ⟨p, by rw [q]; rfl, by rw [q]; rfl⟩
    · exact .inr ⟨o, c, p, q, by rw [← flat_bytes8]; exact r⟩)
  refine ⟨L1, v1, xs, on, hL1, .v (.v (.a hv1)), b1, fun x hx => ?_⟩
  have := hwf x hx
  simp [Lit.wf, IntKind.min, IntKind.max, IntKind.signed, IntKind.bits] at this
  omega
end Go.Proofs.Ytnkiocnnekgioaa
