/- hand: acts that come in. -/
import Derived.Test.YtdjbpnpfgabdjaaAbB
import Derived.Test.YtdjbpnpfgabdjaaHG
import Derived.OpenShut
import Derived.ShutString
namespace Go.Proofs.Ytdjbpnpfgabdjaa
set_option linter.unusedVariables false
set_option linter.unusedSimpArgs false
set_option linter.unusedSectionVars false
open Go.RowKit Ab

theorem flat57 {w : World} : Flat Try.prog w 57 (fun o : Act => av o) (fun o => (Lit.int .i64 o.kind).wf = true ∧ (Lit.int .i64 o.a).wf = true ∧ (Lit.int .i64 o.b).wf = true ∧ (Lit.int .i64 o.n).wf = true ∧ (Lit.int .i64 o.w).wf = true) := by
  intro H enc base spare held fuel cs y h
  obtain ⟨xs, k, _, _, hl, hxs, hel⟩ := DataW.trod_struct Try.underlying57 h
  have hl5 : cs.length = 5 := hl.trans (by kernel_rfl)
  have hc3 : Try.prog.cellsOf 3 = 1 := by kernel_rfl
  have hxs5 : xs.length = 5 := hxs
  have each : ∀ i (hi : i < 5) (f : Field), (#[{ name := "Kind", type := 3, offset := 0, embedded := false, tag := "", pkgPath := "", byteOffset := 0 }, { name := "A", type := 3, offset := 1, embedded := false, tag := "", pkgPath := "", byteOffset := 8 }, { name := "B", type := 3, offset := 2, embedded := false, tag := "", pkgPath := "", byteOffset := 16 }, { name := "N", type := 3, offset := 3, embedded := false, tag := "", pkgPath := "", byteOffset := 24 }, { name := "W", type := 3, offset := 4, embedded := false, tag := "", pkgPath := "", byteOffset := 32 }] : Array Field)[i]? = some f → f.type = 3 → f.offset = i → ∃ n, cs[i]? = some (.int .i64 n) ∧ (Lit.int .i64 n).wf = true := fun i hi f hf ht ho => by
    have h0 := hel i f hf
    rw [List.getElem?_eq_getElem (by omega), ht, ho, hc3] at h0
    obtain ⟨n, e, hw⟩ := flat_int (k := .i64) Try.underlying3 enc base spare held k _ _ h0
    refine ⟨n, ?_, hw⟩
    have : ((cs.drop i).take 1)[0]? = some (.int .i64 n) := by rw [e]; rfl
    simpa using this
  obtain ⟨n0, e0, w0⟩ := each 0 (by omega) _ rfl rfl rfl
  obtain ⟨n1, e1, w1⟩ := each 1 (by omega) _ rfl rfl rfl
  obtain ⟨n2, e2, w2⟩ := each 2 (by omega) _ rfl rfl rfl
  obtain ⟨n3, e3, w3⟩ := each 3 (by omega) _ rfl rfl rfl
  obtain ⟨n4, e4, w4⟩ := each 4 (by omega) _ rfl rfl rfl
  refine ⟨⟨n0, n1, n2, n3, n4⟩, ?_, w0, w1, w2, w3, w4⟩
  match cs, hl5 with
  | [a, b, c, d, e], _ =>
    simp at e0 e1 e2 e3 e4
    subst e0; subst e1; subst e2; subst e3; subst e4; rfl
theorem spot46 {W : World} {base : Nat} {a : Addr} {n c : Nat} (h : Value.okWide Try.prog W .any base 46 (.slice (some a) n c)) : a.spot = none := by
  unfold Value.okWide at h
  rw [Try.underlying46] at h
  simp only [Cell.okWide, Cell.ok, Try.underlying46] at h
  exact h.2.2.2.1
theorem acts_in {W : World} {base : Nat} {H : Type} {enc : TypeId × Value → H} {b0 : Nat} {sp : Nat → Bool} {held : Bool} {v : Value} {d : DataW H} {ps : List MemPlace} (hv : Value.okWide Try.prog W .any base 46 v)
    (h : DataW.Trod enc Try.prog W b0 sp held 46 v d ps) :
    ∃ L A c Z, Sim W (roR L) (roH L) W ∧ VR (roR L) (.slice A Z.length c) v ∧ ActsAt (roH L) A Z ∧ ActsOk Z := by
  obtain ⟨fuel, ht⟩ := h
  have hsl : ∃ A n c, v = .slice A n c := by
    unfold Value.okWide at hv
    rw [Try.underlying46] at hv
    cases v <;> simp only [Cell.okWide, Cell.ok, Try.underlying46] at hv <;> first | exact ⟨_, _, _, rfl⟩ | exact hv.elim | skip
  obtain ⟨A, n, c, rfl⟩ := hsl
  have hflat := flat_slice (m := 5) Try.underlying46 (by kernel_rfl) (fun x hx => rfl) flat57 ht
  rcases hflat with e | ⟨a, cap, xs, e, hle, hwf, hc⟩
  · obtain ⟨rfl, rfl, rfl⟩ : A = none ∧ n = 0 ∧ c = 0 := by
      have : [Value.slice A n c] = [.slice none 0 0] := e
      injection this with h1 _
      injection h1 with a b c; exact ⟨a, b, c⟩
    exact ⟨[], none, 0, [], Sim.ro (by simp), .v (.v (.a .nils)), fun h => absurd rfl h, by intro o ho; cases ho⟩
  · obtain ⟨rfl, rfl, rfl⟩ : A = some a ∧ n = xs.length ∧ c = cap := by
      have : [Value.slice A n c] = [.slice (some a) xs.length cap] := e
      injection this with h1 _
      injection h1 with a b c; exact ⟨a, b, c⟩
    have hs := spot46 hv
    refine ⟨[(⟨a.block, a.off, c * 5, 5⟩, oc xs)], some ⟨0, 0, none⟩, xs.length, xs, Sim.ro ?_, .v (.v (.a (.sl (l := ⟨a.block, a.off, c * 5, 5⟩) rfl hle (by simp) (.inr ?_) hle (.inl rfl)))), fun _ => ⟨0, false, oc xs, rfl, rfl, by rw [← oc_length, List.take_length]⟩, fun o ho => ?_⟩
    · intro p hp i u hu
      rw [List.mem_singleton.1 hp] at hu ⊢
      have h1 := hc i u hu
      rw [add_at hs] at h1
      refine ⟨u, h1, pl1.self _ ?_⟩
      have hm := List.mem_of_getElem? hu
      obtain ⟨o, _, hy⟩ := List.mem_flatMap.1 hm
      simp only [av, List.mem_cons, List.not_mem_nil, or_false] at hy
      rcases hy with rfl | rfl | rfl | rfl | rfl <;> rfl
    · obtain ⟨b, o, sp⟩ := a
      simp only at hs; subst hs; rfl
    · have := (hwf o ho).2.1
      have hb := bounds_i64 this
      exact hb
end Go.Proofs.Ytdjbpnpfgabdjaa
