/- Lists that grow by append: none yet, or all of a block of its own. -/
import Derived.Test.YtnbgeodignljfaaAbU
namespace Go.Proofs.Ytnbgeodignljfaa.Ab
set_option linter.unusedVariables false
set_option linter.unusedSimpArgs false
set_option linter.unusedSectionVars false
open Go.RowKit
theorem X.stopC {P : Program} {n id : Nat} {c z : Code} {Q : AExit → Env → AHeap → Prop} {tm : Env} {s : AHeap} (h : AWp P n (.seq (.block id c) z) Q tm s) : AWp P n (.seq (.block id c) z) Q tm s := h
/-- A conversion whose outcome is known. -/
theorem O.convW {P : Program} {tm : Env} {s : AHeap} {K : Value → AHeap → Prop} {d : Option Tmp} {t : TypeId} {p : String} {af : Array Edge} {gd : Option (Nat × Bool)} {x : Operand} {src dst : TypeId} {k k0 k1 : IntKind} {sz by_ : Nat} {z : Value} {sz' by' : Nat} {z' : Value} {a b : Int} [h1 : HasTD P src ⟨.int k0, sz, by_, z⟩] [h2 : HasTD P dst ⟨.int k1, sz', by', z'⟩]
    (hw : k1.wrap a = b) (hx : Ev tm x (.int k a)) (h : K (.int k1 b) s) : AOp P ⟨d, .convert src dst x, t, p, af, gd⟩ tm s K := by subst hw; exact O.convInt hx h
/-- A list of k elements (of es cells each): nil, or all of a block named from N on. -/
def Gr (s : AHeap) (es N : Nat) (v : Value) (on : Option Nat) (k : Nat) (xs : List Value) : Prop :=
  (v = .slice none 0 0 ∧ on = none ∧ k = 0 ∧ xs = []) ∨ ∃ q, on = some q ∧ v = .slice (some ⟨q, 0, none⟩) k k ∧ At s q (.cells true es xs) ∧ xs.length = k * es ∧ N ≤ q
namespace Gr
variable {s s' : AHeap} {es N k : Nat} {v : Value} {on : Option Nat} {xs : List Value}
theorem nil : Gr s es N (.slice none 0 0) none 0 [] := .inl ⟨rfl, rfl, rfl, rfl⟩
theorem new {q : Nat} (h : At s q (.cells true es xs)) (hl : xs.length = k * es) (hq : N ≤ q) : Gr s es N (.slice (some ⟨q, 0, none⟩) k k) (some q) k xs := .inr ⟨q, rfl, rfl, h, hl, hq⟩
theorem lat (h : Gr s es N v on k xs) : LAt s es v on k xs := by
  rcases h with ⟨rfl, rfl, rfl, rfl⟩ | ⟨q, rfl, rfl, h, hl, _⟩
  · exact .nil
  · exact .blk h hl
theorem of_at (h : Gr s es N v on k xs) (hs : ∀ q, on = some q → s' q = s q) : Gr s' es N v on k xs := by
  rcases h with ⟨rfl, rfl, rfl, rfl⟩ | ⟨q, rfl, rfl, h, hl, hq⟩
  · exact nil
  · exact new (by unfold At; rw [hs q rfl]; exact h.eq) hl hq
theorem lt {M : Nat} (h : Gr s es N v on k xs) (hT : Top M s) : ∀ q, on = some q → q < M := by
  rcases h with ⟨rfl, rfl, rfl, rfl⟩ | ⟨q, rfl, rfl, h, hl, hq⟩
  · intro q e; cases e
  · intro q' e; obtain rfl := Option.some.inj e; exact hT.lt h
theorem from_ (h : Gr s es N v on k xs) : ∀ q, on = some q → N ≤ q := by
  rcases h with ⟨rfl, rfl, rfl, rfl⟩ | ⟨q, rfl, rfl, h, hl, hq⟩
  · intro q e; cases e
  · intro q' e; obtain rfl := Option.some.inj e; exact hq
theorem set (h : Gr s es N v on k xs) {id : Nat} {b : ABlk} (hid : ∀ q, on = some q → q ≠ id) : Gr (s.set id b) es N v on k xs := h.of_at fun q e => AHeap.set_other _ _ (hid q e)
theorem own (h : Gr s es N v on k xs) (hk : k ≠ 0) : ∃ q, on = some q ∧ v = .slice (some ⟨q, 0, none⟩) k k ∧ At s q (.cells true es xs) ∧ xs.length = k * es ∧ N ≤ q := by
  rcases h with ⟨_, _, h, _⟩ | h
  · exact absurd h hk
  · exact h
theorem isl (h : Gr s es N v on k xs) : ∃ A, v = .slice A k k := by
  rcases h with ⟨rfl, rfl, rfl, rfl⟩ | ⟨q, rfl, rfl, h, hl, hq⟩
  · exact ⟨_, rfl⟩
  · exact ⟨_, rfl⟩
/-- Behind an append. -/
theorem app {M k' : Nat} {xs' : List Value} (g : Grew s s' on M (.cells true es xs')) (hl : xs'.length = k' * es) (hM : N ≤ M) : Gr s' es N (.slice (some ⟨M, 0, none⟩) k' k') (some M) k' xs' := new g.hit hl hM
/-- What else lies there behind an append. -/
theorem frN {s0 : AHeap} {M : Nat} {b : ABlk} (h : Gr s es N v on k xs) (g : Grew s s' on M b) (F : Fr s s0 []) (hT : Top N s0) : Fr s' s0 [] := g.fr F fun q e => .inl (hT.none (h.from_ q e))
theorem topN {M : Nat} {b : ABlk} (h : Gr s es N v on k xs) (g : Grew s s' on M b) (T : Top M s) : Top (M + 1) s' := g.topN T (h.lt T)
theorem off {M : Nat} {b c : ABlk} (g : Grew s s' on M b) {i : Nat} (hi : At s i c) (h1 : ∀ q, on = some q → q ≠ i) (h2 : i ≠ M) : At s' i c := At.var (by rw [g.off i (fun e => h1 i e rfl) h2]; exact hi.eq)
end Gr
end Go.Proofs.Ytnbgeodignljfaa.Ab
