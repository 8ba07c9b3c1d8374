/- Rules for maps. -/
import Derived.Test.YtnbgeodignljfaaAbU
namespace Go.Proofs.Ytnbgeodignljfaa.Ab
set_option linter.unusedVariables false
set_option linter.unusedSimpArgs false
set_option linter.unusedSectionVars false
open Go.RowKit
namespace O
section
variable {P : Program} {tm : Env} {s : AHeap} {K : Value → AHeap → Prop} {d : Option Tmp} {t : TypeId} {p : String} {af : Array Edge} {gd : Option (Nat × Bool)}
theorem makeMap (M : Nat) {ty : TypeId} (hid : Free s M) (h : K (.map (some M)) (s.set M (.map []))) : AOp P ⟨d, .makeMap ty none, t, p, af, gd⟩ tm s K := ⟨M, hid.eq, h⟩
theorem lookup {x i : Operand} {ty kt et : TypeId} {sz by_ : Nat} {z : Value} {te : TD} [h1 : HasTD P ty ⟨.map kt et, sz, by_, z⟩] [h2 : HasTD P et te] {D : Value → Prop} {id : Nat} {es : List (Value × Value)} {k : Value} {r : Option (Nat × Value)}
    (hx : Ev tm x (.map (some id))) (hi : Ev tm i k) (hs : At s id (.map es)) (hz : plB te.zero = true) (hK : KeyT P kt D) (hd : D k) (he : ∀ e ∈ es, D e.1) (hf : MFind k es 0 r) (h : K (mres te.zero r) s) :
    AOp P ⟨d, .lookup ty x i false, t, p, af, gd⟩ tm s K :=
  ⟨_, ⟨_, te, kt, et, D, es, r, h1.is, rfl, h2.is, hz, hK, by rw [hi.eq]; exact hd, .inr ⟨id, hx.eq, hs.eq⟩, he, by rw [hi.eq]; exact hf, by rw [if_neg (by decide)]⟩, h⟩
theorem lookup2 {x i : Operand} {ty kt et : TypeId} {sz by_ : Nat} {z : Value} {te : TD} [h1 : HasTD P ty ⟨.map kt et, sz, by_, z⟩] [h2 : HasTD P et te] {D : Value → Prop} {id : Nat} {es : List (Value × Value)} {k : Value} {r : Option (Nat × Value)}
    (hx : Ev tm x (.map (some id))) (hi : Ev tm i k) (hs : At s id (.map es)) (hz : plB te.zero = true) (hK : KeyT P kt D) (hd : D k) (he : ∀ e ∈ es, D e.1) (hf : MFind k es 0 r) (h : K (.tuple #[mres te.zero r, .bool r.isSome]) s) :
    AOp P ⟨d, .lookup ty x i true, t, p, af, gd⟩ tm s K :=
  ⟨_, ⟨_, te, kt, et, D, es, r, h1.is, rfl, h2.is, hz, hK, by rw [hi.eq]; exact hd, .inr ⟨id, hx.eq, hs.eq⟩, he, by rw [hi.eq]; exact hf, by rw [if_pos rfl]⟩, h⟩
def mset (k x : Value) (es : List (Value × Value)) : Option (Nat × Value) → List (Value × Value)
  | some p => es.set p.1 (k, x)
  | none => es ++ [(k, x)]
theorem mapUpdate {m i x : Operand} {ty kt et : TypeId} {sz by_ : Nat} {z : Value} [h1 : HasTD P ty ⟨.map kt et, sz, by_, z⟩] {D : Value → Prop} {id : Nat} {es : List (Value × Value)} {k v : Value} {r : Option (Nat × Value)}
    (hm : Ev tm m (.map (some id))) (hi : Ev tm i k) (hx : Ev tm x v) (hs : At s id (.map es)) (hK : KeyT P kt D) (hd : D k) (he : ∀ e ∈ es, D e.1) (hf : MFind k es 0 r) (hn : notTup v = true) (h : K undef (s.set id (.map (mset k v es r)))) :
    AOp P ⟨d, .mapUpdate ty m i x, t, p, af, gd⟩ tm s K :=
  ⟨_, ⟨_, kt, et, D, id, es, r, h1.is, rfl, hK, by rw [hi.eq]; exact hd, hm.eq, hs.eq, he, by rw [hi.eq]; exact hf, by rw [hx.eq]; exact hn, rfl⟩, by rw [hi.eq, hx.eq]; cases r <;> exact h⟩
end
end O
end Go.Proofs.Ytnbgeodignljfaa.Ab
