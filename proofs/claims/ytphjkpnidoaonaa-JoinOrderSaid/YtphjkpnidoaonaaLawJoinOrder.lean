import Derived.Test.YtphjkpnidoaonaaRows
import Derived.Test.YtphjkpnidoaonaaJA
import Derived.Test.YtphjkpnidoaonaaAbB
import Derived.WalkKit
import Derived.ProofKit
import Derived.OpenShut
import Derived.ShutString
import Derived.ChangeOld
import Derived.Below
import Derived.SizedLaws
namespace Go.Proofs.Ytphjkpnidoaonaa.joinOrder
set_option linter.unusedVariables false
set_option linter.unusedSimpArgs false
set_option linter.unusedSectionVars false
open Go.ChangeShapes Go.WideShapes Go.ChangeAt Go.RowKit Go.Proofs.Ytphjkpnidoaonaa.Ab
theorem own : ownKnob Try.prog.godebug = none := by kernel_rfl
theorem laidOut : laidOutB Try.prog = true := by kernel_rfl
theorem spot_of {W : World} {base : Nat} {a : Addr} {n c : Nat} (h : Value.okWide Try.prog W .any base 22 (.slice (some a) n c)) : a.spot = none ∧ n ≤ c ∧ (c : Int) ≤ IntKind.i64.max := by
  unfold Value.okWide at h
  rw [Try.underlying22] at h
  simp only [Cell.okWide, Cell.ok, Try.underlying22] at h
  exact ⟨h.2.2.2.1, h.1, h.2.1⟩
theorem flat_len {xs : List (List Int)} (h : ∀ x ∈ xs, x.length = 2 ∧ ∀ n ∈ x, (Lit.int .i64 n).wf = true) : xs.flatten.length = 2 * xs.length := by
  induction xs with
  | nil => rfl
  | cons x xs ih => rw [List.flatten_cons, List.length_append, (h x (by simp)).1, ih (fun y hy => h y (by simp [hy])), List.length_cons]; omega
theorem flat_ints (xs : List (List Int)) : (xs.flatMap fun x => x.flatMap fun n => [Value.int .i64 n]) = ints xs.flatten := by
  induction xs with
  | nil => rfl
  | cons x xs ih =>
    rw [List.flatMap_cons, ih, List.flatten_cons]
    unfold ints
    rw [List.map_append]
    congr 1
    induction x with
    | nil => rfl
    | cons n x ihx => rw [List.flatMap_cons, ihx]; rfl
/-- The pairs that come in, as a block that is only read. -/
theorem pairs_in {W : World} {base : Nat} {H : Type} {enc : TypeId × Value → H} {b0 : Nat} {sp : Nat → Bool} {held : Bool} {v : Value} {d : DataW H} {ps : List MemPlace} (hv : Value.okWide Try.prog W .any base 22 v)
    (h : DataW.Trod enc Try.prog W b0 sp held 22 v d ps) :
    ∃ L A n c Z, Sim W (roR L) (roH L) W ∧ VR (roR L) (.slice A n c) v ∧ PairsAt (roH L) A n Z ∧ n ≤ 9223372036854775807 := by
  obtain ⟨fuel, ht⟩ := h
  have hsl : ∃ A n c, v = .slice A n c := by
    unfold Value.okWide at hv
    rw [Try.underlying22] at hv
    cases v <;> simp only [Cell.okWide, Cell.ok, Try.underlying22] at hv <;> first | exact ⟨_, _, _, rfl⟩ | exact hv.elim | skip
  obtain ⟨A, n, c, rfl⟩ := hsl
  have hflat := flat_slice (m := 2) Try.underlying22 (by kernel_rfl) (f := fun xs : List Int => xs.flatMap fun n => [Value.int .i64 n]) (wf := fun xs => xs.length = 2 ∧ ∀ x ∈ xs, (Lit.int .i64 x).wf = true)
    (fun x hx => by
      have : ∀ l : List Int, (l.flatMap fun n => [Value.int .i64 n]).length = l.length := fun l => by
        induction l with
        | nil => rfl
        | cons a l ih => rw [List.flatMap_cons, List.length_append, ih, List.length_cons]; simp; omega
      rw [this]; exact hx.1)
    (flat_array (n := 2) (m := 1) Try.underlying28 (by kernel_rfl) (by kernel_rfl) (flat_int Try.underlying3)) ht
  rcases hflat with e | ⟨a, cap, xs, e, hle, hwf, hc⟩
  · obtain ⟨rfl, rfl, rfl⟩ : A = none ∧ n = 0 ∧ c = 0 := by
      have : [Value.slice A n c] = [.slice none 0 0] := e
      injection this with h1 _
      injection h1 with a b c; exact ⟨a, b, c⟩
    exact ⟨[], none, 0, 0, [], Sim.ro (by simp), .v (.v (.a .nils)), ⟨rfl, fun h => absurd rfl h⟩, by omega⟩
  · obtain ⟨rfl, rfl, rfl⟩ : A = some a ∧ n = xs.length ∧ c = cap := by
      have : [Value.slice A n c] = [.slice (some a) xs.length cap] := e
      injection this with h1 _
      injection h1 with a b c; exact ⟨a, b, c⟩
    obtain ⟨hs, _, hcap⟩ := spot_of hv
    rw [flat_ints] at hc
    refine ⟨[(⟨a.block, a.off, c * 2, 2⟩, ints xs.flatten)], some ⟨0, 0, none⟩, xs.length, xs.length, xs.flatten, Sim.ro ?_, .v (.v (.a (.sl (l := ⟨a.block, a.off, c * 2, 2⟩) rfl hle (by simp) (.inr ?_) hle (.inl rfl)))), ⟨flat_len hwf, fun _ => ⟨0, rfl, rfl⟩⟩, ?_⟩
    · intro p hp i u hu
      rw [List.mem_singleton.1 hp] at hu ⊢
      have h1 := hc i u hu
      rw [add_at hs] at h1
      refine ⟨u, h1, pl1.self _ ?_⟩
      have := List.mem_of_getElem? hu
      obtain ⟨y, _, rfl⟩ := List.mem_map.1 this
      rfl
    · obtain ⟨b, o, sp⟩ := a
      simp only at hs; subst hs; rfl
    · have : IntKind.i64.max = 9223372036854775807 := by decide
      rw [this] at hcap
      omega
set_option maxRecDepth 100000 in
theorem lifted (os : Os) (started : os.Started) (H : Type) (enc : TypeId × Value → H) :
    ReturnsInHanded {} Try.checked os 3 .any (Rows.joinOrderSpec.pre6 enc Try.prog Try.f3 Rows.joinOrderRow.domain false) (Rows.joinOrderSpec.post enc Try.prog Try.f3 false true false false) := by
  refine returnsInHanded_of_change_sized (C := Try.checked) own started (by kernel_rfl) Try.func3
    (ChangeSpec.witness6 (enc := enc) (C := Try.checked) false ⟨#[], #[.int .u8 0, .slice none 0 0], []⟩ 8 (by kernel_rfl) (by kernel_rfl) (by kernel_rfl) (by kernel_rfl)) ?_
  intro W base args ds gs before hval0 hW hcnd hsz0 _
  have hW' := hW
  obtain ⟨p, q, hA0, hV, rfl, hfz, hnd⟩ := hW
  have hA : DataW.TrodAll enc Try.prog W 0 (fun _ => true) true Try.f3.params.toList args.toList ds p := hA0
  have hval : ∀ (j : Nat) t v, Try.f3.params[j]? = some t → args[j]? = some v → Value.okWide Try.prog W .any base t v := hval0
  rw [Try.params3] at hA hval
  obtain ⟨v0, vs0, d0, ds0, p0, q0, hargs, rfl, rfl, h0, r0⟩ := trodAll_cons hA
  obtain ⟨v1, vs1, d1, ds1, p1, q1, rfl, rfl, rfl, h1, r1⟩ := trodAll_cons r0
  obtain ⟨rfl, rfl, rfl⟩ := trodAll_nil r1
  obtain rfl : args = #[v0, v1] := by cases args; simp_all
  obtain ⟨rfl, rfl⟩ := trodVars_none hV
  obtain ⟨a0, rfl, rfl, rfl, w0⟩ := open_int Try.underlying5 (hval 0 5 v0 rfl rfl) h0
  have k1 := h1
  have lt1 : ∀ x ∈ p1, x.block < W.heap.size := by obtain ⟨m, hm⟩ := k1; exact DataW.trod_lt m _ _ _ hm
  obtain ⟨L, A, n, c, Z, hS, hv1, hP, hn⟩ := pairs_in (hval 1 22 v1 rfl rfl) h1
  have hb0 : 0 ≤ a0 ∧ a0 ≤ 255 := bounds_u8 w0
  clear hA0 hval0 hsz0
  refine ((law3 hb0 hP hn).law hS (.cons (plR.self _ rfl) (.cons hv1 .nil))).mono ?_
  rintro e W' ⟨he, bel0⟩
  have bel : Below W.heap.size W W' := bel0
  subst he
  exact ⟨_, rfl, _, _, _, [], _, [], hW', trodAll_mk1 (shut_bool Try.underlying4 _), (trodAll_cons_mk (shut_int Try.underlying5 w0) (trodAll_cons_mk (Below.trod laidOut (by kernel_rfl) (of_decide_eq_true (by kernel_rfl)) k1 bel lt1) trodAll_mk0)), rfl, bel.frame _, fun h => by cases h⟩
theorem over : Rows.joinOrderRow.holds Try.pinned (OpenSpec.ofChange Rows.joinOrderSpec) :=
  OpenClaim.holds_of_wide 3 Try.f3 rfl rfl rfl rfl rfl rfl rfl ⟨rfl, rfl, rfl, rfl, rfl⟩ rfl rfl rfl rfl rfl (by kernel_rfl) Try.func3 (by kernel_rfl)
    (of_decide_eq_true (by kernel_rfl)) (by unfold Func.isWrapper; first | (rw [if_pos (by decide +kernel)]; kernel_rfl) | (rw [if_neg (by decide +kernel)]; exact ⟨rfl, rfl⟩))
    (fun os started H enc _ => lifted os started H enc)
theorem proved : Rows.JoinOrderSaid := over
#print axioms proved
end Go.Proofs.Ytphjkpnidoaonaa.joinOrder
namespace Go.Proofs.Ytphjkpnidoaonaa
/-- The row, under a short name, for the claim. -/
theorem joinOrder_holds : Rows.JoinOrderSaid := joinOrder.proved
end Go.Proofs.Ytphjkpnidoaonaa
