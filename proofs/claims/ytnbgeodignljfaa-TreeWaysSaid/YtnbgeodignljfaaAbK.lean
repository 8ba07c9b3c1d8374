/- The rules of the walk under short names, their side conditions by kind. -/
import Derived.Test.YtnbgeodignljfaaAbW
namespace Go.Proofs.Ytnbgeodignljfaa.Ab
set_option linter.unusedVariables false
set_option linter.unusedSimpArgs false
set_option linter.unusedSectionVars false
open Go.RowKit
/-- To be spelled out. -/
def Nm (a b : List Value) : Prop := a = b
theorem Nm.mk {a b : List Value} (h : a = b) : Nm a b := h
namespace Qz
theorem tk {c : List Value} {n : Nat} (h : c.length = n) : (c.drop 0).take n = c := by rw [List.drop_zero, ← h, List.take_length]
theorem sp {c l : List Value} (h : l.length = c.length) : splice c 0 l = l := O.splice_all h
section
variable {P : Program} {tm : Env} {s : AHeap} {K : Value → AHeap → Prop} {d : Option Tmp} {t : TypeId} {p : String} {af : Array Edge} {gd : Option (Nat × Bool)}
theorem ld {x : Operand} {xt : TypeId} {td : TD} [h1 : HasTD P xt td] {id off sz : Nat} {rw : Bool} {c : List Value} {v : Value} (ha : td.agg = false) (hx : Ev tm x (.pointer (some ⟨id, off, none⟩))) (hs : At s id (.cells rw sz c))
    (hv : Get c off v) (h : K v s) : AOp P ⟨d, .load xt x, t, p, af, gd⟩ tm s K := O.loadG ha hx hs hv h
theorem lda {x : Operand} {xt : TypeId} {td : TD} [h1 : HasTD P xt td] {id off sz : Nat} {rw : Bool} {c l : List Value} (ha : td.agg = true) (hx : Ev tm x (.pointer (some ⟨id, off, none⟩))) (hs : At s id (.cells rw sz c))
    (ho : Lt (off + td.size) (c.length + 1)) (hl : Nm ((c.drop off).take td.size) l) (h : K (.agg l.toArray) s) : AOp P ⟨d, .load xt x, t, p, af, gd⟩ tm s K := O.loadAggN ha hx hs ho hl h
theorem st {x y : Operand} {xt : TypeId} {td : TD} [h1 : HasTD P xt td] {id off sz : Nat} {c c' : List Value} {v : Value} (ha : td.agg = false) (hz : td.size = 1) (hx : Ev tm x (.pointer (some ⟨id, off, none⟩))) (hy : Ev tm y v) (hs : At s id (.cells true sz c)) (hv : v.cells = #[v])
    (hn : notTup v = true) (ho : Lt off c.length) (hc : Nm (c.set off v) c') (h : K undef (s.set id (.cells true sz c'))) : AOp P ⟨d, .store xt x y, t, p, af, gd⟩ tm s K := O.storeN hz hx hy hs hv hn ho hc h
theorem sta {x y : Operand} {xt : TypeId} {td : TD} [h1 : HasTD P xt td] {id off sz : Nat} {c l c' : List Value} (ha : td.agg = true) (hx : Ev tm x (.pointer (some ⟨id, off, none⟩))) (hy : Ev tm y (.agg l.toArray)) (hs : At s id (.cells true sz c)) (hl : l.length = td.size)
    (ho : Lt (off + td.size) (c.length + 1)) (hc : Nm (splice c off l) c') (h : K undef (s.set id (.cells true sz c'))) : AOp P ⟨d, .store xt x y, t, p, af, gd⟩ tm s K := O.storeAggN ha hx hy hs hl ho hc h
theorem bs {xt : TypeId} {parts : Array (Nat × Operand)} {l : List (Nat × Value)} {fs : List (Nat × TypeId)} {sz by_ : Nat} {z c0 c : List Value} {pl : List (Nat × Nat)} [h1 : HasTD P xt ⟨.struct fs, sz, by_, .agg z.toArray⟩] [h2 : HasPl P xt pl] (hz : z.all pl1 = true) (hp : EvP tm parts.toList l)
    (hc : afill (fun i => pl[i]?) z l = some c0) (hn : Nm c0 c) (h : K (.agg c.toArray) s) : AOp P ⟨d, .build xt parts, t, p, af, gd⟩ tm s K := O.buildS hp hz hc hn h
theorem br {xt e : TypeId} {parts : Array (Nat × Operand)} {l : List (Nat × Value)} {n sz by_ : Nat} {z c0 c : List Value} {te : TD} [h1 : HasTD P xt ⟨.array n e, sz, by_, .agg z.toArray⟩] [h2 : HasTD P e te] (hz : z.all pl1 = true) (hp : EvP tm parts.toList l)
    (hc : afill (fun i => some (i * te.size, te.size)) z l = some c0) (hn : Nm c0 c) (h : K (.agg c.toArray) s) : AOp P ⟨d, .build xt parts, t, p, af, gd⟩ tm s K := O.buildR hp hz hc hn h
theorem ck {g : FuncId} {args : Array Operand} {ts : Array TypeId} {l : List Value} {v : Value} {s' : AHeap} (ha : Evs tm args.toList l)
    (hc : ACall P g l s v s') (h : K v s') : AOp P ⟨d, .call ⟨.value (.func g), args, ts⟩, t, p, af, gd⟩ tm s K := O.callF ha hc h
theorem xt {x : Operand} {i : Nat} {l : List Value} {v : Value} (hx : Ev tm x (.tuple l.toArray)) (hv : Get l i v) (h : K v s) : AOp P ⟨d, .extract x i, t, p, af, gd⟩ tm s K := O.extract hx (by unfold Get at hv; exact hv) h
/-- A box or a variable, under the first free name. -/
theorem bx {x : Operand} {e : TypeId} {l : List Value} {M : Nat} (hT : Top M s) (hx : Ev tm x (.agg l.toArray)) (h : K (.pointer (some ⟨M, 0, none⟩)) (s.set M (.cells true 1 l))) : AOp P ⟨d, .box e x, t, p, af, gd⟩ tm s K := O.boxA M hx (hT.free (Nat.le_refl _)) h
theorem bx1 {x : Operand} {e : TypeId} {v : Value} {M : Nat} (hT : Top M s) (hx : Ev tm x v) (hv : v.cells = #[v]) (hn : notTup v = true) (h : K (.pointer (some ⟨M, 0, none⟩)) (s.set M (.cells true 1 [v]))) : AOp P ⟨d, .box e x, t, p, af, gd⟩ tm s K := O.box1 M hx (hT.free (Nat.le_refl _)) hv hn h
theorem al {e : TypeId} {k : TK} {sz by_ M : Nat} {l : List Value} [h1 : HasTD P e ⟨k, sz, by_, .agg l.toArray⟩] (hp : l.all pl1 = true) (hT : Top M s) (h : K (.pointer (some ⟨M, 0, none⟩)) (s.set M (.cells true 1 l))) : AOp P ⟨d, .alloc e, t, p, af, gd⟩ tm s K := O.allocA M (hT.free (Nat.le_refl _)) hp h
theorem al1 {e : TypeId} {k : TK} {sz by_ M : Nat} {z : Value} [h1 : HasTD P e ⟨k, sz, by_, z⟩] (hp : plA z = true) (hT : Top M s) (h : K (.pointer (some ⟨M, 0, none⟩)) (s.set M (.cells true 1 [z]))) : AOp P ⟨d, .alloc e, t, p, af, gd⟩ tm s K := O.alloc1 M (hT.free (Nat.le_refl _)) hp h
/-- The same, under a name that is told. -/
theorem bxN (M : Nat) {x : Operand} {e : TypeId} {l : List Value} (hf : Free s M) (hx : Ev tm x (.agg l.toArray)) (h : K (.pointer (some ⟨M, 0, none⟩)) (s.set M (.cells true 1 l))) : AOp P ⟨d, .box e x, t, p, af, gd⟩ tm s K := O.boxA M hx hf h
end
end Qz
attribute [irreducible] Nm
end Go.Proofs.Ytnbgeodignljfaa.Ab
