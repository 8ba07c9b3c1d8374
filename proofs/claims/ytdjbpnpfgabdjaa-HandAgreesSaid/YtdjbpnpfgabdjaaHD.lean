/- hand: what is on the ways between two ends, in memory. -/
import Derived.Test.YtdjbpnpfgabdjaaHC
namespace Go.Proofs.Ytdjbpnpfgabdjaa
set_option linter.unusedVariables false
set_option linter.unusedSimpArgs false
set_option linter.unusedSectionVars false
open Go.RowKit Ab HP
attribute [local irreducible] AOps AOpsD AOp AWp put nargs AHeap.set At Free ACall thenQ blockQ roundQ RetQ Src

def nc (l : List Note) : List Value := l.flatMap fun n => [.bool n.1, .int .i64 n.2]
theorem nc_length (l : List Note) : (nc l).length = l.length * 2 := by induction l with
  | nil => rfl
  | cons a l ih => simp only [nc, List.flatMap_cons, List.length_append, List.length_cons, List.length_nil] at *; omega
theorem nc_pl (l : List Note) : (nc l).all pl1 = true := by induction l with
  | nil => rfl
  | cons a l ih => simp only [nc, List.flatMap_cons, List.all_append] at *; rw [ih]; rfl
theorem nc_append (a b : List Note) : nc (a ++ b) = nc a ++ nc b := by simp [nc]
abbrev pc (limit : Int) (h0 h1 : H) (v0 v1 : Value) : List Value := [.int .i64 limit, .int .i64 h0.last, .int .i64 h0.cur, .int .i64 h0.prop, .bool h0.over, .int .i64 h1.last, .int .i64 h1.cur, .int .i64 h1.prop, .bool h1.over, v0, v1]
theorem pc_nm {D : Nat → Prop} {limit : Int} {h0 h1 : H} {v0 v1 : Value} (a : nm1 D v0) (b : nm1 D v1) : (ABlk.cells true 1 (pc limit h0 h1 v0 v1)).nm D := by
  intro x hx
  simp only [pc, List.mem_cons, List.not_mem_nil, or_false] at hx
  rcases hx with rfl | rfl | rfl | rfl | rfl | rfl | rfl | rfl | rfl | rfl | rfl <;> first | trivial | assumption

/-- A way: a list of notes that one's memory holds. -/
structure Way (sb s : AHeap) (j : Nat) (v : Value) (on : Option Nat) (l : List Note) : Prop where
  w : WAt s 2 v on l.length (nc l)
  own : ∀ q, on = some q → sb q = none ∧ q ≠ j
  pl : ∀ o cs, on = some o → At s o (.cells true 2 cs) → cs.all pl1 = true
/-- Two ends in memory, all of it new since 'sb'. -/
structure PH (sb s : AHeap) (j : Nat) (limit : Int) (x : Pr) (v0 v1 : Value) (o0 o1 : Option Nat) : Prop where
  j0 : sb j = none
  p : At s j (.cells true 1 (pc limit x.h0 x.h1 v0 v1))
  w0 : Way sb s j v0 o0 x.w0
  w1 : Way sb s j v1 o1 x.w1
  ap : ∀ q, o0 = some q → o1 ≠ some q

theorem Way.of {sb s s' : AHeap} {j : Nat} {v : Value} {on : Option Nat} {l : List Note} (h : Way sb s j v on l) (hs : ∀ o, on = some o → s' o = s o) : Way sb s' j v on l :=
  ⟨h.w.of_at hs, h.own, fun o cs e hc => h.pl o cs e (by unfold At at *; rw [← hs o e]; exact hc)⟩
/-- An end that goes on. -/
theorem PH.setH {sb s : AHeap} {j : Nat} {limit : Int} {x : Pr} {v0 v1 : Value} {o0 o1 : Option Nat} (h : PH sb s j limit x v0 v1 o0 o1) (g0 g1 : H) : PH sb (s.set j (.cells true 1 (pc limit g0 g1 v0 v1))) j limit ⟨g0, g1, x.w0, x.w1⟩ v0 v1 o0 o1 :=
  ⟨h.j0, At.hit, h.w0.of fun o e => AHeap.set_other _ _ (h.w0.own o e).2, h.w1.of fun o e => AHeap.set_other _ _ (h.w1.own o e).2, h.ap⟩
theorem PH.nm {sb s : AHeap} {j : Nat} {limit : Int} {x : Pr} {v0 v1 : Value} {o0 o1 : Option Nat} (h : PH sb s j limit x v0 v1 o0 o1) : nm1 (fun i => (s i).isSome = true) v0 ∧ nm1 (fun i => (s i).isSome = true) v1 := ⟨h.w0.w.nm h.w0.w.some, h.w1.w.nm h.w1.w.some⟩
theorem PH.keep {sb s s1 : AHeap} {j : Nat} {limit : Int} {x : Pr} {v0 v1 : Value} {o0 o1 : Option Nat} (h : PH sb s j limit x v0 v1 o0 o1) {g0 g1 : H} (hf : Fr s1 s [j]) (ha : At s1 j (.cells true 1 (pc limit g0 g1 v0 v1))) :
    Keeps s s1 (s.set j (.cells true 1 (pc limit g0 g1 v0 v1))) undef :=
  Keeps.one h.p.eq ha.eq (fun i hi c hc => hf i (by simpa using hi) c hc) (pc_nm h.nm.1 h.nm.2) (plR.nm rfl)
theorem PH.ext {sb s : AHeap} {j : Nat} {limit : Int} {x : Pr} {v0 v1 : Value} {o0 o1 : Option Nat} (h : PH sb s j limit x v0 v1 o0 o1) (g0 g1 : H) : Ext (s.set j (.cells true 1 (pc limit g0 g1 v0 v1))) s :=
  (Ext.refl s).set (pc_nm (nm1.imp (fun _ => .inl) h.nm.1) (nm1.imp (fun _ => .inl) h.nm.2))
end Go.Proofs.Ytdjbpnpfgabdjaa
