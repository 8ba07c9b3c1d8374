/- words: reading, step by step. -/
import Derived.Test.YtnkiocnnekgioaaWQ
namespace Go.Proofs.Ytnkiocnnekgioaa
set_option linter.unusedVariables false
set_option linter.unusedSimpArgs false
set_option linter.unusedSectionVars false
open Go.RowKit Ab WP
attribute [local irreducible] AOps AOpsD AOp AWp put nargs AHeap.set At Free ACall ACallE thenQ blockQ roundQ RetQ RetE Src num topV

/-- A scan at j, whose bytes lie in q. -/
structure SC (s : AHeap) (j q : Nat) (σ : Sc) : Prop where
  ex : ∃ v on, At s j (.cells true 1 (sc v σ.2)) ∧ BA s 1 v on σ.1.length (bc σ.1) ∧ (on = none ∨ on = some q)
  b : Bytes σ.1
theorem SC.keep {s s' : AHeap} {j q : Nat} {σ : Sc} (h : SC s j q σ) (hj : s' j = s j) (hq : s' q = s q) : SC s' j q σ := by
  obtain ⟨⟨v, on, a, b, c⟩, d⟩ := h
  refine ⟨⟨v, on, by unfold At; rw [hj]; exact a.eq, b.of_at fun o e => ?_, c⟩, d⟩
  rcases c with rfl | rfl
  · cases e
  · obtain rfl := Option.some.inj e; exact hq
theorem SC.take {s : AHeap} {j q : Nat} {σ : Sc} {w : Int} (h : SC s j q σ) (hjq : j ≠ q) (hw : W3 w) :
    ∃ v', (∀ g, g = 28 ∨ g = 33 → ACall Try.prog g [.pointer (some ⟨j, 0, none⟩), .int .i64 w] s (.int .i64 (tk w σ).1) (s.set j (.cells true 1 (sc v' (tk w σ).2.2)))) ∧ SC (s.set j (.cells true 1 (sc v' (tk w σ).2.2))) j q (tk w σ).2 := by
  obtain ⟨⟨v, on, a, b, c⟩, d⟩ := h
  refine ⟨vtk w σ.1 σ.2 v, fun g hg => ?_, ⟨_, on, At.hit, (b.tk hw).of_at fun o e => AHeap.set_other _ _ ?_, c⟩, tk_bytes d⟩
  · rcases hg with rfl | rfl
    · exact take28 hw a b d
    · exact take33 hw a b d
  · rcases c with rfl | rfl
    · cases e
    · obtain rfl := Option.some.inj e; exact hjq.symm
/-- What was read since σ0, when the memory was sb: ns, in the widths ws. -/
structure DS (s0 sb s : AHeap) (j q M : Nat) (σ0 : Sc) (ws ns : List Int) (σ : Sc) : Prop where
  sc : SC s j q σ
  jq : j ≠ q
  off : ∀ i, i ≠ j → s i = sb i
  T : Top M s
  F : Fr s s0 []
  j0 : s0 j = none
  rd : rds ws σ0 = (ns, σ)
theorem rds_snoc : ∀ {ws : List Int} {σ0 σ σ' : Sc} {ns : List Int} {w n : Int}, rds ws σ0 = (ns, σ) → tk w σ = (n, σ') → rds (ws ++ [w]) σ0 = (ns ++ [n], σ')
  | [], σ0, σ, σ', ns, w, n, h, h2 => by
    obtain ⟨rfl, rfl⟩ := Prod.mk.inj h
    simp [rds, h2]
  | x :: ws, σ0, σ, σ', ns, w, n, h, h2 => by
    simp only [rds] at h
    obtain ⟨rfl, e⟩ := Prod.mk.inj h
    have := rds_snoc (ws := ws) (σ0 := (tk x σ0).2) (ns := (rds ws (tk x σ0).2).1) (by rw [← e]) h2
    simp only [List.cons_append, rds, this]
theorem DS.step {s0 sb s : AHeap} {j q M : Nat} {σ0 σ : Sc} {ws ns : List Int} {w : Int} (h : DS s0 sb s j q M σ0 ws ns σ) (hw : W3 w) :
    ∃ n σ' s', tk w σ = (n, σ') ∧ (∀ g, g = 28 ∨ g = 33 → ACall Try.prog g [.pointer (some ⟨j, 0, none⟩), .int .i64 w] s (.int .i64 n) s') ∧ DS s0 sb s' j q M σ0 (ws ++ [w]) (ns ++ [n]) σ' := by
  obtain ⟨a, b, c, d, e, f, g⟩ := h
  obtain ⟨v', c1, c2⟩ := a.take b hw
  refine ⟨(tk w σ).1, (tk w σ).2, _, rfl, c1, c2, b, fun i hi => by rw [AHeap.set_other _ _ hi]; exact c i hi, ?_, Fr.new (free_of f) e, f, rds_snoc g rfl⟩
  obtain ⟨v, on, a, _⟩ := a.ex
  exact d.set (d.lt a)
theorem take_op {tm : Env} {s0 sb s : AHeap} {K : Value → AHeap → Prop} {d : Option Tmp} {t : TypeId} {ts : Array TypeId} {ps : String} {af : Array Edge} {gd : Option (Nat × Bool)} {x z : Operand} {w : Int} {j q M : Nat} {σ0 σ : Sc} {ws ns : List Int} {g : FuncId}
    (hg : g = 28 ∨ g = 33) (h : DS s0 sb s j q M σ0 ws ns σ) (hx : Ev tm x (.pointer (some ⟨j, 0, none⟩))) (hz : Ev tm z (.int .i64 w)) (hw : W3 w)
    (hK : ∀ n σ' s', DS s0 sb s' j q M σ0 (ws ++ [w]) (ns ++ [n]) σ' → K (.int .i64 n) s') : AOp Try.prog ⟨d, .call ⟨.value (.func g), #[x, z], ts⟩, t, ps, af, gd⟩ tm s K := by
  obtain ⟨n, σ', s', _, c, h'⟩ := h.step hw
  exact O.callF (Evs.cons hx (Evs.cons hz Evs.nil)) (c g hg) (hK n σ' s' h')
section
variable {s0 sb s : AHeap} {j q M : Nat} {σ0 σ : Sc} {ws ns : List Int}
theorem DS.up (h : DS s0 sb s j q M σ0 ws ns σ) {i : Nat} {b : ABlk} (hb : At sb i b) (hi : i ≠ j) : At s i b := by unfold At; rw [h.off i hi]; exact hb.eq
theorem DS.restart (h : DS s0 sb s j q M σ0 ws ns σ) : DS s0 s s j q M σ [] [] σ := ⟨h.sc, h.jq, fun _ _ => rfl, h.T, h.F, h.j0, rfl⟩
/-- A change elsewhere. -/
theorem DS.move {s' : AHeap} {M' : Nat} (h : DS s0 sb s j q M σ0 ws ns σ) (hj : s' j = s j) (hq : s' q = s q) (T : Top M' s') (F : Fr s' s0 []) : DS s0 s' s' j q M' σ [] [] σ := ⟨h.sc.keep hj hq, h.jq, fun _ _ => rfl, T, F, h.j0, rfl⟩
theorem DS.err (h : DS s0 sb s j q M σ0 ws ns σ) : ACall Try.prog 29 [.pointer (some ⟨j, 0, none⟩)] s (.int .i64 σ.2) s := by
  obtain ⟨v, on, a, _⟩ := h.sc.ex; exact err29 a
theorem DS.end_ (h : DS s0 sb s j q M σ0 ws ns σ) : ACall Try.prog 30 [.pointer (some ⟨j, 0, none⟩)] s (.int .i64 (endV σ.1 σ.2)) s := by
  obtain ⟨v, on, a, b, _⟩ := h.sc.ex; exact end30 a b
theorem DS.at_ (h : DS s0 sb s j q M σ0 ws ns σ) : ∃ v, At s j (.cells true 1 (Go.Proofs.Ytnkiocnnekgioaa.sc v σ.2)) := by
  obtain ⟨v, on, a, _⟩ := h.sc.ex; exact ⟨v, a⟩
theorem DS.jl (h : DS s0 sb s j q M σ0 ws ns σ) : j < M := by
  obtain ⟨v, a⟩ := h.at_; exact h.T.lt a
end

/-! ### bytes as strings -/
theorem u8s_bc : ∀ l : List Int, u8s (bc l) = some l
  | [] => rfl
  | a :: l => by show (u8s (bc l)).map (a :: ·) = _; rw [u8s_bc l]; rfl
theorem conv_bytes {s : AHeap} {A : Option Addr} {n c : Nat} {l : List Int} (h : Src s 1 (.slice A n c) n (bc l)) : aconv Try.prog 34 9 s (.slice A n c) = some (.string (strOf l)) := by
  unfold Src at h
  simp only [aconv, (inferInstance : HasTD Try.prog 34 _).is, (inferInstance : HasTD Try.prog 9 _).is, (inferInstance : HasTD Try.prog 5 _).is, h, u8s_bc, Option.map_some]
theorem strOf_eq {a b : List Int} (ha : Bytes a) (hb : Bytes b) : (strOf a).data.toList = (strOf b).data.toList ↔ a = b := by
  refine ⟨fun h => ?_, fun h => by rw [h]⟩
  simp only [strOf] at h
  induction a generalizing b with
  | nil => cases b with
    | nil => rfl
    | cons y b => simp at h
  | cons x a ih =>
    cases b with
    | nil => simp at h
    | cons y b =>
      simp only [List.map_cons, List.cons.injEq] at h
      have hx := ha x (by simp)
      have hy := hb y (by simp)
      have h1 : x = y := by
        have := congrArg UInt8.toNat h.1
        rw [UInt8.toNat_ofNat', UInt8.toNat_ofNat'] at this
        omega
      rw [h1, ih (fun z hz => ha z (by simp [hz])) (fun z hz => hb z (by simp [hz])) h.2]
end Go.Proofs.Ytnkiocnnekgioaa
