import Derived.Test.YtphjkpnidoaonaaRows
import Derived.Test.YtphjkpnidoaonaaJB
import Derived.Test.YtphjkpnidoaonaaAbB
import Derived.WalkKit
import Derived.ProofKit
import Derived.OpenShut
import Derived.ShutString
import Derived.ChangeOld
import Derived.Below
import Derived.SizedLaws
namespace Go.Proofs.Ytphjkpnidoaonaa.joinUnites
set_option linter.unusedVariables false
set_option linter.unusedSimpArgs false
set_option linter.unusedSectionVars false
open Go.ChangeShapes Go.WideShapes Go.ChangeAt Go.RowKit Go.Proofs.Ytphjkpnidoaonaa.Ab
theorem own : ownKnob Try.prog.godebug = none := by kernel_rfl
theorem laidOut : laidOutB Try.prog = true := by kernel_rfl
theorem spot_of {W : World} {base : Nat} {a : Addr} {n c : Nat} (h : Value.okWide Try.prog W .any base 22 (.slice (some a) n c)) : a.spot = none ∧ n ≤ c ∧ (c : Int) ≤ IntKind.i64.max := by
  unfold Value.okWide at h
  rw [Try.underlying22] at h
  simp only [Cell.okWide, Cell.ok, Try.underlying22] at h
  exact ⟨h.2.2.2.1, h.1, h.2.1⟩
theorem flat_len {xs : List (List Int)} (h : ∀ x ∈ xs, x.length = 2 ∧ ∀ n ∈ x, (Lit.int .i64 n).wf = true) : xs.flatten.length = 2 * xs.length := by
  induction xs with
  | nil => rfl
  | cons x xs ih => rw [List.flatten_cons, List.length_append, (h x (by simp)).1, ih (fun y hy => h y (by simp [hy])), List.length_cons]; omega
theorem flat_ints (xs : List (List Int)) : (xs.flatMap fun x => x.flatMap fun n => [Value.int .i64 n]) = ints xs.flatten := by
  induction xs with
  | nil => rfl
  | cons x xs ih =>
    rw [List.flatMap_cons, ih, List.flatten_cons]
    unfold ints
    rw [List.map_append]
    congr 1
    induction x with
    | nil => rfl
    | cons n x ihx => rw [List.flatMap_cons, ihx]; rfl
/-- The pairs that come in, as a block that is only read. -/
theorem pairs_in {W : World} {base : Nat} {H : Type} {enc : TypeId × Value → H} {b0 : Nat} {sp : Nat → Bool} {held : Bool} {v : Value} {d : DataW H} {ps : List MemPlace} (hv : Value.okWide Try.prog W .any base 22 v)
    (h : DataW.Trod enc Try.prog W b0 sp held 22 v d ps) :
    ∃ L A n c Z, Sim W (roR L) (roH L) W ∧ VR (roR L) (.slice A n c) v ∧ PairsAt (roH L) A n Z ∧ n ≤ 9223372036854775807 := by
  obtain ⟨fuel, ht⟩ := h
  have hsl : ∃ A n c, v = .slice A n c := by
    unfold Value.okWide at hv
    rw [Try.underlying22] at hv
    cases v <;> simp only [Cell.okWide, Cell.ok, Try.underlying22] at hv <;> first | exact ⟨_, _, _, rfl⟩ | exact hv.elim | skip
  obtain ⟨A, n, c, rfl⟩ := hsl
  have hflat := flat_slice (m := 2) Try.underlying22 (by kernel_rfl) (f := fun xs : List Int => xs.flatMap fun n => [Value.int .i64 n]) (wf := fun xs => xs.length = 2 ∧ ∀ x ∈ xs, (Lit.int .i64 x).wf = true)
    (fun x hx => by
      have : ∀ l : List Int, (l.flatMap fun n => [Value.int .i64 n]).length = l.length := fun l => by
        induction l with
        | nil => rfl
        | cons a l ih => rw [List.flatMap_cons, List.length_append, ih, List.length_cons]; simp; omega
      rw [this]; exact hx.1)
    (flat_array (n := 2) (m := 1) Try.underlying28 (by kernel_rfl) (by kernel_rfl) (flat_int Try.underlying3)) ht
  rcases hflat with e | ⟨a, cap, xs, e, hle, hwf, hc⟩
  · obtain ⟨rfl, rfl, rfl⟩ : A = none ∧ n = 0 ∧ c = 0 := by
      have : [Value.slice A n c] = [.slice none 0 0] := e
      injection this with h1 _
      injection h1 with a b c; exact ⟨a, b, c⟩
    exact ⟨[], none, 0, 0, [], Sim.ro (by simp), .v (.v (.a .nils)), ⟨rfl, fun h => absurd rfl h⟩, by omega⟩
  · obtain ⟨rfl, rfl, rfl⟩ : A = some a ∧ n = xs.length ∧ c = cap := by
      have : [Value.slice A n c] = [.slice (some a) xs.length cap] := e
      injection this with h1 _
      injection h1 with a b c; exact ⟨a, b, c⟩
    obtain ⟨hs, _, hcap⟩ := spot_of hv
    rw [flat_ints] at hc
    refine ⟨[(⟨a.block, a.off, c * 2, 2⟩, ints xs.flatten)], some ⟨0, 0, none⟩, xs.length, xs.length, xs.flatten, Sim.ro ?_, .v (.v (.a (.sl (l := ⟨a.block, a.off, c * 2, 2⟩) rfl hle (by simp) (.inr ?_) hle (.inl rfl)))), ⟨flat_len hwf, fun _ => ⟨0, rfl, rfl⟩⟩, ?_⟩
    · intro p hp i u hu
      rw [List.mem_singleton.1 hp] at hu ⊢
      have h1 := hc i u hu
      rw [add_at hs] at h1
      refine ⟨u, h1, pl1.self _ ?_⟩
      have := List.mem_of_getElem? hu
      obtain ⟨y, _, rfl⟩ := List.mem_map.1 this
      rfl
    · obtain ⟨b, o, sp⟩ := a
      simp only at hs; subst hs; rfl
    · have : IntKind.i64.max = 9223372036854775807 := by decide
      rw [this] at hcap
      omega
theorem arr_in {W : World} {base : Nat} {H : Type} {enc : TypeId × Value → H} {b0 : Nat} {sp : Nat → Bool} {held : Bool} {v : Value} {d : DataW H} {ps : List MemPlace} (hv : Value.okWide Try.prog W .any base 28 v)
    (h : DataW.Trod enc Try.prog W b0 sp held 28 v d ps) : ∃ a b, v = .agg #[.int .i64 a, .int .i64 b] := by
  obtain ⟨fuel, ht⟩ := h
  unfold Value.okWide at hv
  rw [Try.underlying28] at hv
  obtain ⟨cs, rfl, _⟩ := hv
  obtain ⟨xs, e, hx⟩ := flat_array (n := 2) (m := 1) Try.underlying28 (by kernel_rfl) (by kernel_rfl) (flat_int Try.underlying3) _ _ _ _ _ _ _ ht
  obtain ⟨a, b, rfl⟩ : ∃ a b, xs = [a, b] := by
    match xs, hx.1 with
    | [a, b], _ => exact ⟨a, b, rfl⟩
  refine ⟨a, b, ?_⟩
  have e2 : cs.toList = [.int .i64 a, .int .i64 b] := e
  congr 1
  apply Array.ext'
  rw [e2]
set_option maxRecDepth 100000 in
theorem lifted (os : Os) (started : os.Started) (H : Type) (enc : TypeId × Value → H) :
    ReturnsInHanded {} Try.checked os 5 .any (Rows.joinUnitesSpec.pre6 enc Try.prog Try.f5 Rows.joinUnitesRow.domain false) (Rows.joinUnitesSpec.post enc Try.prog Try.f5 false true false false) := by
  refine returnsInHanded_of_change_sized (C := Try.checked) own started (by kernel_rfl) Try.func5
    (ChangeSpec.witness6 (enc := enc) (C := Try.checked) false ⟨#[], #[.int .i64 0, .slice none 0 0, .agg #[.int .i64 0, .int .i64 0]], []⟩ 8 (by kernel_rfl) (by kernel_rfl) (by kernel_rfl) (by kernel_rfl)) ?_
  intro W base args ds gs before hval0 hW hcnd hsz0 _
  have hW' := hW
  obtain ⟨p, q, hA0, hV, rfl, hfz, hnd⟩ := hW
  have hA : DataW.TrodAll enc Try.prog W 0 (fun _ => true) true Try.f5.params.toList args.toList ds p := hA0
  have hval : ∀ (j : Nat) t v, Try.f5.params[j]? = some t → args[j]? = some v → Value.okWide Try.prog W .any base t v := hval0
  rw [Try.params5] at hA hval
  obtain ⟨v0, vs0, d0, ds0, p0, q0, hargs, rfl, rfl, h0, r0⟩ := trodAll_cons hA
  obtain ⟨v1, vs1, d1, ds1, p1, q1, rfl, rfl, rfl, h1, r1⟩ := trodAll_cons r0
  obtain ⟨v2, vs2, d2, ds2, p2, q2, rfl, rfl, rfl, h2, r2⟩ := trodAll_cons r1
  obtain ⟨rfl, rfl, rfl⟩ := trodAll_nil r2
  obtain rfl : args = #[v0, v1, v2] := by cases args; simp_all
  obtain ⟨rfl, rfl⟩ := trodVars_none hV
  obtain ⟨a0, rfl, rfl, rfl, w0⟩ := open_int Try.underlying3 (hval 0 3 v0 rfl rfl) h0
  have k1 := h1
  have k2 := h2
  have lt1 : ∀ x ∈ p1, x.block < W.heap.size := by obtain ⟨m, hm⟩ := k1; exact DataW.trod_lt m _ _ _ hm
  have lt2 : ∀ x ∈ p2, x.block < W.heap.size := by obtain ⟨m, hm⟩ := k2; exact DataW.trod_lt m _ _ _ hm
  obtain ⟨L, A, n, c, Z, hS, hv1, hP, hn⟩ := pairs_in (hval 1 22 v1 rfl rfl) h1
  obtain ⟨a, b, rfl⟩ := arr_in (hval 2 28 v2 rfl rfl) h2
  clear hA0 hval0 hsz0
  refine ((law5 hP hn).law hS (.cons (plR.self _ rfl) (.cons hv1 (.cons (plR.self _ rfl) .nil)))).mono ?_
  rintro e W' ⟨he, bel0⟩
  have bel : Below W.heap.size W W' := bel0
  subst he
  exact ⟨_, rfl, _, _, _, [], _, [], hW', trodAll_mk1 (shut_bool Try.underlying4 _), (trodAll_cons_mk (shut_int Try.underlying3 w0) (trodAll_cons_mk (Below.trod laidOut (by kernel_rfl) (of_decide_eq_true (by kernel_rfl)) k1 bel lt1) (trodAll_cons_mk (Below.trod laidOut (by kernel_rfl) (of_decide_eq_true (by kernel_rfl)) k2 bel lt2) trodAll_mk0))), rfl, bel.frame _, fun h => by cases h⟩
theorem over : Rows.joinUnitesRow.holds Try.pinned (OpenSpec.ofChange Rows.joinUnitesSpec) :=
  OpenClaim.holds_of_wide 5 Try.f5 rfl rfl rfl rfl rfl rfl rfl ⟨rfl, rfl, rfl, rfl, rfl⟩ rfl rfl rfl rfl rfl (by kernel_rfl) Try.func5 (by kernel_rfl)
    (of_decide_eq_true (by kernel_rfl)) (by unfold Func.isWrapper; first | (rw [if_pos (by decide +kernel)]; kernel_rfl) | (rw [if_neg (by decide +kernel)]; exact ⟨rfl, rfl⟩))
    (fun os started H enc _ => lifted os started H enc)
theorem proved : Rows.JoinUnitesSaid := over
#print axioms proved
end Go.Proofs.Ytphjkpnidoaonaa.joinUnites
namespace Go.Proofs.Ytphjkpnidoaonaa
/-- The row, under a short name, for the claim. -/
theorem joinUnites_holds : Rows.JoinUnitesSaid := joinUnites.proved
end Go.Proofs.Ytphjkpnidoaonaa
