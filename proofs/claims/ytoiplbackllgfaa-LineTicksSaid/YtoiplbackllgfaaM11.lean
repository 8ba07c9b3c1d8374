/- texts of this claim, one behind the other: AbZ, AbH, AbP. -/
import Derived.Test.YtoiplbackllgfaaM10

/- The rules of a walk gathered by kinds, so that 'constructor' finds the rule; closed steps as defaults of hypotheses. Written by gen_abz.py. -/
namespace Go.Proofs.Ytoiplbackllgfaa.Ab
set_option linter.unusedVariables false
set_option linter.unusedSimpArgs false
set_option linter.unusedSectionVars false
open Go.RowKit
/-- Is it told by several cells? -/
class Agg (td : TD) (b : outParam Bool) : Prop where
  is : td.agg = b
instance {fs : List (Nat × TypeId)} {s b : Nat} {z : Value} : Agg ⟨.struct fs, s, b, z⟩ true := ⟨rfl⟩
instance {n : Nat} {e : TypeId} {s b : Nat} {z : Value} : Agg ⟨.array n e, s, b, z⟩ true := ⟨rfl⟩
instance {k : IntKind} {s b : Nat} {z : Value} : Agg ⟨.int k, s, b, z⟩ false := ⟨rfl⟩
instance  {s b : Nat} {z : Value} : Agg ⟨.bool, s, b, z⟩ false := ⟨rfl⟩
instance  {s b : Nat} {z : Value} : Agg ⟨.str, s, b, z⟩ false := ⟨rfl⟩
instance {e : TypeId} {s b : Nat} {z : Value} : Agg ⟨.ptr e, s, b, z⟩ false := ⟨rfl⟩
instance {e : TypeId} {s b : Nat} {z : Value} : Agg ⟨.slice e, s, b, z⟩ false := ⟨rfl⟩
instance {k e : TypeId} {s b : Nat} {z : Value} : Agg ⟨.map k e, s, b, z⟩ false := ⟨rfl⟩
inductive Og (P : Program) (tm : Env) (s : AHeap) (K : Value → AHeap → Prop) : Op → Prop
  | move {x : Operand} {v : Value} (hx : Ev tm x v) (h : K v s) : Og P tm s K (.move x)
  | assign {x : Operand} {v : Value} (hx : Ev tm x v) (h : K v s) : Og P tm s K (.assign x)
  | fieldAddr {x : Operand} {xt : TypeId} {f id off : Nat} {fs : List (Nat × TypeId)} {sz by_ : Nat} {z : Value} [h1 : HasTD P xt ⟨.struct fs, sz, by_, z⟩] {o : Nat} {ft : TypeId} {tf : TD} (hx : Ev tm x (.pointer (some ⟨id, off, none⟩))) (hf : fs[f]? = some (o, ft)) (h2 : HasTD P ft tf) (hz : tf.size ≠ 0) (h : K (.pointer (some ⟨id, off + o, none⟩)) s) : Og P tm s K (.fieldAddr xt x f)
  | pickG {c x y : Operand} {b : Bool} (hc : Ev tm c (.bool b)) (h : GK b true (PK tm x K s) (PK tm y K s)) : Og P tm s K (.pick c x y)
  | ld {x : Operand} {xt : TypeId} {td : TD} [h1 : HasTD P xt td] {id off sz : Nat} {rw : Bool} {c : List Value} {v : Value} [ha : Agg td false] (hx : Ev tm x (.pointer (some ⟨id, off, none⟩))) (hs : At s id (.cells rw sz c)) (hv : Get c off v) (h : K v s) : Og P tm s K (.load xt x)
  | lda {x : Operand} {xt : TypeId} {td : TD} [h1 : HasTD P xt td] {id off sz : Nat} {rw : Bool} {c l : List Value} [ha : Agg td true] (hx : Ev tm x (.pointer (some ⟨id, off, none⟩))) (hs : At s id (.cells rw sz c)) (ho : Lt (off + td.size) (c.length + 1)) (hl : Nm ((c.drop off).take td.size) l) (h : K (.agg l.toArray) s) : Og P tm s K (.load xt x)
  | st {x y : Operand} {xt : TypeId} {td : TD} [h1 : HasTD P xt td] {id off sz : Nat} {c c' : List Value} {v : Value} [ha : Agg td false] (hz : td.size = 1) (hx : Ev tm x (.pointer (some ⟨id, off, none⟩))) (hy : Ev tm y v) (hs : At s id (.cells true sz c)) (hv : v.cells = #[v]) (hn : notTup v = true) (ho : Lt off c.length) (hc : Nm (c.set off v) c') (h : K undef (s.set id (.cells true sz c'))) : Og P tm s K (.store xt x y)
  | sta {x y : Operand} {xt : TypeId} {td : TD} [h1 : HasTD P xt td] {id off sz : Nat} {c l c' : List Value} [ha : Agg td true] (hx : Ev tm x (.pointer (some ⟨id, off, none⟩))) (hy : Ev tm y (.agg l.toArray)) (hs : At s id (.cells true sz c)) (hl : l.length = td.size) (ho : Lt (off + td.size) (c.length + 1)) (hc : Nm (splice c off l) c') (h : K undef (s.set id (.cells true sz c'))) : Og P tm s K (.store xt x y)
  | addG {x y : Operand} {ty : TypeId} {xt : TypeId} {sz by_ : Nat} {z : Value} [_h1 : HasTD P xt ⟨.int .i64, sz, by_, z⟩] {a b : Int} (hx : Ev tm x (.int .i64 a)) (hy : Ev tm y (.int .i64 b)) (hr : Rg (-9223372036854775808 ≤ a + b ∧ a + b ≤ 9223372036854775807)) (h : K (.int .i64 (a + b)) s) : Og P tm s K (.binOp .add xt x y ty)
  | subG {x y : Operand} {ty : TypeId} {xt : TypeId} {sz by_ : Nat} {z : Value} [_h1 : HasTD P xt ⟨.int .i64, sz, by_, z⟩] {a b : Int} (hx : Ev tm x (.int .i64 a)) (hy : Ev tm y (.int .i64 b)) (hr : Rg (-9223372036854775808 ≤ a - b ∧ a - b ≤ 9223372036854775807)) (h : K (.int .i64 (a - b)) s) : Og P tm s K (.binOp .sub xt x y ty)
  | mulG {x y : Operand} {ty : TypeId} {xt : TypeId} {sz by_ : Nat} {z : Value} [_h1 : HasTD P xt ⟨.int .i64, sz, by_, z⟩] {a b : Int} (hx : Ev tm x (.int .i64 a)) (hy : Ev tm y (.int .i64 b)) (hr : Rg (-9223372036854775808 ≤ a * b ∧ a * b ≤ 9223372036854775807)) (h : K (.int .i64 (a * b)) s) : Og P tm s K (.binOp .mul xt x y ty)
  | remG {x y : Operand} {ty : TypeId} {xt : TypeId} {kk : IntKind} {sz by_ : Nat} {z : Value} [_h1 : HasTD P xt ⟨.int kk, sz, by_, z⟩] {k : IntKind} {a b : Int} (hx : Ev tm x (.int k a)) (hy : Ev tm y (.int k b)) (hb : Rg (b ≠ 0)) (h : K (.int k (a.tmod b)) s) : Og P tm s K (.binOp .rem xt x y ty)
  | intG {op : BinOp} {x y : Operand} {ty : TypeId} {xt : TypeId} {kk : IntKind} {sz by_ : Nat} {z : Value} [_h1 : HasTD P xt ⟨.int kk, sz, by_, z⟩] {k k' : IntKind} {a b : Int} {v : Value} (hx : Ev tm x (.int k a)) (hy : Ev tm y (.int k' b)) (hv : aint op k a k' b = some v) (h : K v s) : Og P tm s K (.binOp op xt x y ty)
  | ptrEq {x y : Operand} {ty xt e : TypeId} {sz by_ : Nat} {z : Value} [h1 : HasTD P xt ⟨.ptr e, sz, by_, z⟩] {a : Option Addr} (hx : Ev tm x (.pointer a)) (hy : Ev tm y (.pointer none)) (h : K (.bool a.isNone) s) : Og P tm s K (.binOp .eql xt x y ty)
  | ptrNe {x y : Operand} {ty xt e : TypeId} {sz by_ : Nat} {z : Value} [h1 : HasTD P xt ⟨.ptr e, sz, by_, z⟩] {a : Option Addr} (hx : Ev tm x (.pointer a)) (hy : Ev tm y (.pointer none)) (h : K (.bool a.isSome) s) : Og P tm s K (.binOp .neq xt x y ty)
  | slcEq {x y : Operand} {ty xt e : TypeId} {sz by_ : Nat} {z : Value} [h1 : HasTD P xt ⟨.slice e, sz, by_, z⟩] {a : Option Addr} {n c : Nat} (hx : Ev tm x (.slice a n c)) (hy : Ev tm y (.slice none 0 0)) (h : K (.bool a.isNone) s) : Og P tm s K (.binOp .eql xt x y ty)
  | slcNe {x y : Operand} {ty xt e : TypeId} {sz by_ : Nat} {z : Value} [h1 : HasTD P xt ⟨.slice e, sz, by_, z⟩] {a : Option Addr} {n c : Nat} (hx : Ev tm x (.slice a n c)) (hy : Ev tm y (.slice none 0 0)) (h : K (.bool a.isSome) s) : Og P tm s K (.binOp .neq xt x y ty)
  | boolEq {x y : Operand} {ty xt : TypeId} {sz by_ : Nat} {z : Value} [h1 : HasTD P xt ⟨.bool, sz, by_, z⟩] {a b : Bool} (hx : Ev tm x (.bool a)) (hy : Ev tm y (.bool b)) (h : K (.bool (a == b)) s) : Og P tm s K (.binOp .eql xt x y ty)
  | boolNe {x y : Operand} {ty xt : TypeId} {sz by_ : Nat} {z : Value} [h1 : HasTD P xt ⟨.bool, sz, by_, z⟩] {a b : Bool} (hx : Ev tm x (.bool a)) (hy : Ev tm y (.bool b)) (h : K (.bool (!(a == b))) s) : Og P tm s K (.binOp .neq xt x y ty)
  | strEq {x y : Operand} {ty xt : TypeId} {a b : ByteArray} (hx : Ev tm x (.string a)) (hy : Ev tm y (.string b)) (h : K (.bool (decide (a.data.toList = b.data.toList))) s) : Og P tm s K (.binOp .eql xt x y ty)
  | strNe {x y : Operand} {ty xt : TypeId} {a b : ByteArray} (hx : Ev tm x (.string a)) (hy : Ev tm y (.string b)) (h : K (.bool (!decide (a.data.toList = b.data.toList))) s) : Og P tm s K (.binOp .neq xt x y ty)
  | len {x : Operand} {xt e : TypeId} {sz by_ : Nat} {z : Value} [h1 : HasTD P xt ⟨.slice e, sz, by_, z⟩] {a : Option Addr} {n c : Nat} (hx : Ev tm x (.slice a n c)) (h : K (.int .i64 n) s) : Og P tm s K (.call ⟨.builtin .len, #[x], #[xt]⟩)
  | lenStr {x : Operand} {xt : TypeId} {sz by_ : Nat} {z : Value} [h1 : HasTD P xt ⟨.str, sz, by_, z⟩] {b : ByteArray} (hx : Ev tm x (.string b)) (h : K (.int .i64 b.size) s) : Og P tm s K (.call ⟨.builtin .len, #[x], #[xt]⟩)
  | minG {x y : Operand} {ts : Array TypeId} {k k' : IntKind} {a b : Int} (hx : Ev tm x (.int k a)) (hy : Ev tm y (.int k' b)) (h : GK (decide (b < a)) true (K (.int k b) s) (K (.int k a) s)) : Og P tm s K (.call ⟨.builtin .min, #[x, y], ts⟩)
  | maxG {x y : Operand} {ts : Array TypeId} {k k' : IntKind} {a b : Int} (hx : Ev tm x (.int k a)) (hy : Ev tm y (.int k' b)) (h : GK (decide (b > a)) true (K (.int k b) s) (K (.int k a) s)) : Og P tm s K (.call ⟨.builtin .max, #[x, y], ts⟩)
  | ck {g : FuncId} {args : Array Operand} {ts : Array TypeId} {l : List Value} {v : Value} {s' : AHeap} (ha : Evs tm args.toList l) (hc : ACall P g l s v s') (h : K v s') : Og P tm s K (.call ⟨.value (.func g), args, ts⟩)
  | nilCheck {x : Operand} {a : Addr} (hx : Ev tm x (.pointer (some a))) (h : K (.pointer (some a)) s) : Og P tm s K (.nilCheck x)
  | not {x : Operand} {xt : TypeId} {b : Bool} (hx : Ev tm x (.bool b)) (h : K (.bool (!b)) s) : Og P tm s K (.unOp .not xt x)
  | indexG {x y : Operand} {xt e : TypeId} {sz by_ : Nat} {z : Value} {ke : TK} {es eb : Nat} {ez : Value} [h1 : HasTD P xt ⟨.slice e, sz, by_, z⟩] [h2 : HasTD P e ⟨ke, es, eb, ez⟩] {id off : Nat} {sp : Option Nat} {n c : Nat} {k : IntKind} {i : Int} (hx : Ev tm x (.slice (some ⟨id, off, sp⟩) n c)) (hy : Ev tm y (.int k i)) (hi : Rg (0 ≤ i ∧ i < n)) (h : IK off es i fun o => K (.pointer (some ⟨id, o, none⟩)) s) : Og P tm s K (.indexAddr xt x y)
  | indexArrG {x y : Operand} {xt e : TypeId} {m : Nat} {sz by_ : Nat} {z : Value} {ke : TK} {es eb : Nat} {ez : Value} [h1 : HasTD P xt ⟨.array m e, sz, by_, z⟩] [h2 : HasTD P e ⟨ke, es, eb, ez⟩] {id off : Nat} {k : IntKind} {i : Int} (hx : Ev tm x (.pointer (some ⟨id, off, none⟩))) (hy : Ev tm y (.int k i)) (hi : Rg (0 ≤ i ∧ i < m)) (h : IK off es i fun o => K (.pointer (some ⟨id, o, none⟩)) s) : Og P tm s K (.indexAddr xt x y)
  | xt {x : Operand} {i : Nat} {l : List Value} {v : Value} (hx : Ev tm x (.tuple l.toArray)) (hv : Get l i v) (h : K v s) : Og P tm s K (.extract x i)
  | convInt {x : Operand} {src dst : TypeId} {k k0 k1 : IntKind} {sz by_ : Nat} {z : Value} {sz' by' : Nat} {z' : Value} {a : Int} [h1 : HasTD P src ⟨.int k0, sz, by_, z⟩] [h2 : HasTD P dst ⟨.int k1, sz', by', z'⟩] (hx : Ev tm x (.int k a)) (h : K (.int k1 (k1.wrap a)) s) : Og P tm s K (.convert src dst x)
  | fieldV {x : Operand} {xt : TypeId} {f : Nat} {v v' : Value} (hx : Ev tm x v) (hv : afieldV P xt v f = some v') (h : K v' s) : Og P tm s K (.field xt x f)
  | bs {xt : TypeId} {parts : Array (Nat × Operand)} {l : List (Nat × Value)} {fs : List (Nat × TypeId)} {sz by_ : Nat} {z c0 c : List Value} {pl : List (Nat × Nat)} [h1 : HasTD P xt ⟨.struct fs, sz, by_, .agg z.toArray⟩] [h2 : HasPl P xt pl] (hz : z.all pl1 = true) (hp : EvP tm parts.toList l) (hc : afill (fun i => pl[i]?) z l = some c0) (hn : Nm c0 c) (h : K (.agg c.toArray) s) : Og P tm s K (.build xt parts)
  | br {xt e : TypeId} {parts : Array (Nat × Operand)} {l : List (Nat × Value)} {n sz by_ : Nat} {z c0 c : List Value} {te : TD} [h1 : HasTD P xt ⟨.array n e, sz, by_, .agg z.toArray⟩] [h2 : HasTD P e te] (hz : z.all pl1 = true) (hp : EvP tm parts.toList l) (hc : afill (fun i => some (i * te.size, te.size)) z l = some c0) (hn : Nm c0 c) (h : K (.agg c.toArray) s) : Og P tm s K (.build xt parts)
  | sliceLH {xt e : TypeId} {sz by_ eb es : Nat} {z z1 : Value} {ke : TK} {x lo hi : Operand} {id off n c : Nat} {sp : Option Nat} {rw : Bool} {cs : List Value} {l h : Int} {k1 k2 : IntKind} [h1 : HasTD P xt ⟨.slice e, sz, by_, z⟩] [h2 : HasTD P e ⟨ke, es, eb, z1⟩] (hx : Ev tm x (.slice (some ⟨id, off, sp⟩) n c)) (hs : At s id (.cells rw es cs)) (e1 : Ev tm lo (.int k1 l)) (e2 : Ev tm hi (.int k2 h)) (hr : Rg (0 ≤ l ∧ l ≤ h ∧ h ≤ c)) (hk : K (.slice (some ⟨id, off + l.toNat * es, sp⟩) (h.toNat - l.toNat) (c - l.toNat)) s) : Og P tm s K (.slice xt x (some lo) (some hi) none)
  | sliceL {xt e : TypeId} {sz by_ eb es : Nat} {z z1 : Value} {ke : TK} {x lo : Operand} {id off n c : Nat} {sp : Option Nat} {rw : Bool} {cs : List Value} {l : Int} {k1 : IntKind} [h1 : HasTD P xt ⟨.slice e, sz, by_, z⟩] [h2 : HasTD P e ⟨ke, es, eb, z1⟩] (hx : Ev tm x (.slice (some ⟨id, off, sp⟩) n c)) (hs : At s id (.cells rw es cs)) (e1 : Ev tm lo (.int k1 l)) (hr : Rg (0 ≤ l ∧ l ≤ n ∧ n ≤ c)) (hk : K (.slice (some ⟨id, off + l.toNat * es, sp⟩) (n - l.toNat) (c - l.toNat)) s) : Og P tm s K (.slice xt x (some lo) none none)
  | sliceH {xt e : TypeId} {sz by_ eb es : Nat} {z z1 : Value} {ke : TK} {x hi : Operand} {id off n c : Nat} {sp : Option Nat} {rw : Bool} {cs : List Value} {h : Int} {k2 : IntKind} [h1 : HasTD P xt ⟨.slice e, sz, by_, z⟩] [h2 : HasTD P e ⟨ke, es, eb, z1⟩] (hx : Ev tm x (.slice (some ⟨id, off, sp⟩) n c)) (hs : At s id (.cells rw es cs)) (e2 : Ev tm hi (.int k2 h)) (hr : Rg (0 ≤ h ∧ h ≤ c)) (hk : K (.slice (some ⟨id, off, sp⟩) h.toNat c) s) : Og P tm s K (.slice xt x none (some hi) none)
  | sliceLHM {xt e : TypeId} {sz by_ eb es : Nat} {z z1 : Value} {ke : TK} {x lo hi mx : Operand} {id off n c : Nat} {sp : Option Nat} {rw : Bool} {cs : List Value} {l h m : Int} {k1 k2 k3 : IntKind} [h1 : HasTD P xt ⟨.slice e, sz, by_, z⟩] [h2 : HasTD P e ⟨ke, es, eb, z1⟩] (hx : Ev tm x (.slice (some ⟨id, off, sp⟩) n c)) (hs : At s id (.cells rw es cs)) (e1 : Ev tm lo (.int k1 l)) (e2 : Ev tm hi (.int k2 h)) (e3 : Ev tm mx (.int k3 m)) (hr : Rg (0 ≤ l ∧ l ≤ h ∧ h ≤ m ∧ m ≤ c)) (hk : K (.slice (some ⟨id, off + l.toNat * es, some 0⟩) (h.toNat - l.toNat) (m.toNat - l.toNat)) s) : Og P tm s K (.slice xt x (some lo) (some hi) (some mx))
theorem Og.s {P : Program} {tm : Env} {s : AHeap} {K : Value → AHeap → Prop} {d : Option Tmp} {o : Op} {t : TypeId} {p : String} {af : Array Edge} {gd : Option (Nat × Bool)} (h : Og P tm s K o) : AOp P ⟨d, o, t, p, af, gd⟩ tm s K := by
  cases h with
  | move => apply O.move <;> first | assumption | exact Agg.is
  | assign => apply O.assign <;> first | assumption | exact Agg.is
  | fieldAddr => apply O.fieldAddr <;> first | assumption | exact Agg.is
  | pickG => apply O.pickG <;> first | assumption | exact Agg.is
  | ld => apply Qz.ld <;> first | assumption | exact Agg.is
  | lda => apply Qz.lda <;> first | assumption | exact Agg.is
  | st => apply Qz.st <;> first | assumption | exact Agg.is
  | sta => apply Qz.sta <;> first | assumption | exact Agg.is
  | addG => apply O.addG <;> first | assumption | exact Agg.is
  | subG => apply O.subG <;> first | assumption | exact Agg.is
  | mulG => apply O.mulG <;> first | assumption | exact Agg.is
  | remG => apply O.remG <;> first | assumption | exact Agg.is
  | intG => apply O.intG <;> first | assumption | exact Agg.is
  | ptrEq => apply O.ptrEq <;> first | assumption | exact Agg.is
  | ptrNe => apply O.ptrNe <;> first | assumption | exact Agg.is
  | slcEq => apply O.slcEq <;> first | assumption | exact Agg.is
  | slcNe => apply O.slcNe <;> first | assumption | exact Agg.is
  | boolEq => apply O.boolEq <;> first | assumption | exact Agg.is
  | boolNe => apply O.boolNe <;> first | assumption | exact Agg.is
  | strEq => apply O.strEq <;> first | assumption | exact Agg.is
  | strNe => apply O.strNe <;> first | assumption | exact Agg.is
  | len => apply O.len <;> first | assumption | exact Agg.is
  | lenStr => apply O.lenStr <;> first | assumption | exact Agg.is
  | minG => apply O.minG <;> first | assumption | exact Agg.is
  | maxG => apply O.maxG <;> first | assumption | exact Agg.is
  | ck => apply Qz.ck <;> first | assumption | exact Agg.is
  | nilCheck => apply O.nilCheck <;> first | assumption | exact Agg.is
  | not => apply O.not <;> first | assumption | exact Agg.is
  | indexG => apply O.indexG <;> first | assumption | exact Agg.is
  | indexArrG => apply O.indexArrG <;> first | assumption | exact Agg.is
  | xt => apply Qz.xt <;> first | assumption | exact Agg.is
  | convInt => apply O.convInt <;> first | assumption | exact Agg.is
  | fieldV => apply O.fieldV <;> first | assumption | exact Agg.is
  | bs => apply Qz.bs <;> first | assumption | exact Agg.is
  | br => apply Qz.br <;> first | assumption | exact Agg.is
  | sliceLH => apply O.sliceLH <;> first | assumption | exact Agg.is
  | sliceL => apply O.sliceL <;> first | assumption | exact Agg.is
  | sliceH => apply O.sliceH <;> first | assumption | exact Agg.is
  | sliceLHM => apply O.sliceLHM <;> first | assumption | exact Agg.is
/-- Ways on, behind a part of code. -/
inductive Xg : Prop → Prop
  | thenN {P : Program} {n : Nat} {Q : AExit → Env → AHeap → Prop} {tm : Env} {s : AHeap} {y : Code} (h : AWp P n y Q tm s) : Xg (thenQ P n y Q .normal tm s)
  | thenE {P : Program} {n id : Nat} {Q : AExit → Env → AHeap → Prop} {tm : Env} {s : AHeap} {y : Code} (h : Q (.exit id) tm s) : Xg (thenQ P n y Q (.exit id) tm s)
  | thenR {P : Program} {n : Nat} {Q : AExit → Env → AHeap → Prop} {tm : Env} {s : AHeap} {y : Code} (h : Q .ret tm s) : Xg (thenQ P n y Q .ret tm s)
  | blockN {id : Nat} {Q : AExit → Env → AHeap → Prop} {tm : Env} {s : AHeap} (h : Q .normal tm s) : Xg (blockQ id Q .normal tm s)
  | blockR {id : Nat} {Q : AExit → Env → AHeap → Prop} {tm : Env} {s : AHeap} (h : Q .ret tm s) : Xg (blockQ id Q .ret tm s)
  | blockE {id : Nat} {Q : AExit → Env → AHeap → Prop} {tm : Env} {s : AHeap} (h : Q .normal tm s) : Xg (blockQ id Q (.exit id) tm s)
  | blockO {id id' : Nat} {Q : AExit → Env → AHeap → Prop} {tm : Env} {s : AHeap} (hne : Nat.beq id' id = false) (h : Q (.exit id') tm s) : Xg (blockQ id Q (.exit id') tm s)
  | roundE {k id : Nat} {Q : AExit → Env → AHeap → Prop} {tm : Env} {s : AHeap} {I : Nat → Env → AHeap → Prop} (h : Q (.exit id) tm s) : Xg (roundQ I k Q (.exit id) tm s)
  | roundR {k : Nat} {Q : AExit → Env → AHeap → Prop} {tm : Env} {s : AHeap} {I : Nat → Env → AHeap → Prop} (h : Q .ret tm s) : Xg (roundQ I k Q .ret tm s)
  | seqR {P : Program} {n : Nat} {Q : AExit → Env → AHeap → Prop} {tm : Env} {s : AHeap} {id : Nat} {l : List Oper} {y : Code} (h : AOps P l.toArray l tm s fun tm s => AWp P n y Q tm s) : Xg (AWp P n (.seq (.region id l.toArray false) y) Q tm s)
  | seq {P : Program} {n : Nat} {Q : AExit → Env → AHeap → Prop} {tm : Env} {s : AHeap} {x y : Code} (h : AWp P n x (thenQ P n y Q) tm s) : Xg (AWp P n (.seq x y) Q tm s)
  | block {P : Program} {n : Nat} {Q : AExit → Env → AHeap → Prop} {tm : Env} {s : AHeap} {id : Nat} {c : Code} (h : AWp P n c (blockQ id Q) tm s) : Xg (AWp P n (.block id c) Q tm s)
  | region {P : Program} {n : Nat} {Q : AExit → Env → AHeap → Prop} {tm : Env} {s : AHeap} {id : Nat} {l : List Oper} (h : AOps P l.toArray l tm s fun tm' s' => Q .normal tm' s') : Xg (AWp P n (.region id l.toArray false) Q tm s)
  | skip {P : Program} {n : Nat} {Q : AExit → Env → AHeap → Prop} {tm : Env} {s : AHeap} (h : Q .normal tm s) : Xg (AWp P n .skip Q tm s)
  | ret {P : Program} {n : Nat} {Q : AExit → Env → AHeap → Prop} {tm : Env} {s : AHeap} (h : Q .ret tm s) : Xg (AWp P n .ret Q tm s)
  | exit {P : Program} {n : Nat} {Q : AExit → Env → AHeap → Prop} {tm : Env} {s : AHeap} {id : Nat} (h : Q (.exit id) tm s) : Xg (AWp P n (.exit id) Q tm s)
  | condG {P : Program} {n : Nat} {Q : AExit → Env → AHeap → Prop} {tm : Env} {s : AHeap} {c : Operand} {x y : Code} {b : Bool} (hc : Ev tm c (.bool b)) (h : GK b true (AWp P n x Q tm s) (AWp P n y Q tm s)) : Xg (AWp P n (.cond c x y) Q tm s)
  | gTT {p q : Prop} (h : p) : Xg (GK true true p q)
  | gFF {p q : Prop} (h : p) : Xg (GK false false p q)
  | gTF {p q : Prop} (h : q) : Xg (GK false true p q)
  | gFT {p q : Prop} (h : q) : Xg (GK true false p q)
  | op {P : Program} {ops : Array Oper} {r : List Oper} {tm : Env} {s : AHeap} {K : Env → AHeap → Prop} {d : Option Tmp} {t : TypeId} {p : String} {af : Array Edge} {o : Op} (h : AOp P ⟨d, o, t, p, af, none⟩ tm s fun v s' => AOps P ops r (put tm d v) s' K) : Xg (AOps P ops (⟨d, o, t, p, af, none⟩ :: r) tm s K)
  | nil {P : Program} {ops : Array Oper} {tm : Env} {s : AHeap} {K : Env → AHeap → Prop} (h : K tm s) : Xg (AOps P ops [] tm s K)
  | dnil {P : Program} {ops : Array Oper} {C : List (List Nat)} {W : List (Nat × List Nat)} {i : Nat} {tm : Env} {s : AHeap} {K : Env → AHeap → Prop} (h : K tm s) : Xg (AOpsD P ops C W i [] tm s K)
  | enil {tm : Env} : Xg (Evs tm [] [])
  | econs {tm : Env} {x : Operand} {v : Value} {l : List Operand} {m : List Value} (h : Ev tm x v) (r : Evs tm l m) : Xg (Evs tm (x :: l) (v :: m))
  | pnil {tm : Env} : Xg (EvP tm [] [])
  | pcons {tm : Env} {i : Nat} {x : Operand} {v : Value} {l : List (Nat × Operand)} {m : List (Nat × Value)} (h : Ev tm x v) (r : EvP tm l m) : Xg (EvP tm ((i, x) :: l) ((i, v) :: m))
  | onone {tm : Env} : Xg (EvO tm none none)
  | osome {tm : Env} {x : Operand} {v : Value} (h : Ev tm x v) : Xg (EvO tm (some x) (some v))
  | pk {tm : Env} {x : Operand} {K : Value → AHeap → Prop} {s : AHeap} {v : Value} (hx : Ev tm x v) (h : K v s) : Xg (PK tm x K s)
  | ik01 {i : Int} {F : Nat → Prop} (h : F i.toNat) : Xg (IK 0 1 i F)
  | ik0 {es : Nat} {i : Int} {F : Nat → Prop} (h : F (i.toNat * es)) : Xg (IK 0 es i F)
  | ikG {off es : Nat} {i : Int} {F : Nat → Prop} (h : F (off + i.toNat * es)) : Xg (IK off es i F)
theorem Xg.s {g : Prop} (h : Xg g) : g := by
  cases h with
  | thenN h => exact X.thenN h
  | thenE h => exact X.thenE h
  | thenR h => exact X.thenR h
  | blockN h => exact X.blockN h
  | blockR h => exact X.blockR h
  | blockE h => exact X.blockE h
  | blockO hne h => exact X.blockO (Nat.ne_of_beq_eq_false hne) h
  | roundE h => exact X.roundE h
  | roundR h => exact X.roundR h
  | seqR h => exact AWp.seqR h
  | seq h => exact AWp.seq h
  | block h => exact AWp.block h
  | region h => exact AWp.region h
  | skip h => exact AWp.skip h
  | ret h => exact AWp.ret h
  | exit h => exact AWp.exit h
  | condG hc h => exact X.condG hc h
  | gTT h => exact Ab.gTT h
  | gFF h => exact Ab.gFF h
  | gTF h => exact Ab.gTF h
  | gFT h => exact Ab.gFT h
  | op h => exact S.op h
  | nil h => exact S.nil h
  | dnil h => exact D.nil h
  | enil => exact Evs.nil
  | econs h r => exact Evs.cons h r
  | pnil => exact EvP.nil
  | pcons h r => exact EvP.cons h r
  | onone => exact EvO.none
  | osome h => exact EvO.some h
  | pk hx h => exact Ab.pk hx h
  | ik01 h => exact Ab.ik01 h
  | ik0 h => exact Ab.ik0 h
  | ikG h => exact Ab.ikG h
/-! closed steps: the tactic stands here, as the default of the hypothesis -/
theorem ev_ {tm : Env} {x : Operand} {v : Value} (h : Ev tm x v := by first | ((repeat' (first | exact Ev.hit | (apply Ev.missB; case h => rfl) | exact Ev.const | exact Ev.func | apply Ev.non | assumption | (apply Ev.arg; rfl))); done) | fail) : Ev tm x v := h
theorem evs_ {tm : Env} {x : List Operand} {v : List Value} (h : Evs tm x v := by first | ((repeat' (first | exact Evs.nil | (apply Evs.cons; case h => (repeat' (first | exact Ev.hit | (apply Ev.missB; case h => rfl) | exact Ev.const | exact Ev.func | apply Ev.non | assumption | (apply Ev.arg; rfl)))))); done) | fail) : Evs tm x v := h
theorem evp_ {tm : Env} {x : List (Nat × Operand)} {v : List (Nat × Value)} (h : EvP tm x v := by first | ((repeat' (first | exact EvP.nil | (apply EvP.cons; case h => (repeat' (first | exact Ev.hit | (apply Ev.missB; case h => rfl) | exact Ev.const | exact Ev.func | apply Ev.non | assumption | (apply Ev.arg; rfl)))))); done) | fail) : EvP tm x v := h
theorem at_ {s : AHeap} {i : Nat} {b : ABlk} (h : At s i b := by first | ((repeat' (first | exact At.hit | assumption | (apply At.var; assumption) | (apply At.agree; (case ha => assumption); (case hn => (first | exact List.not_mem_nil | (simp [others, unordB, cC]; done) | (simp [others, unordB, cC]; omega)))) | (apply At.sd; (case ha => assumption); (case hn => first | exact List.not_mem_nil | (simp; done) | (simp; omega))) | (apply At.miss; case h => omega) | (exact Top.free (by assumption) (by omega)))); done) | fail) : At s i b := h
theorem free_ {s : AHeap} {i : Nat} (h : Free s i := by first | ((repeat' (first | assumption | (apply Free.agree; (case ha => assumption); (case hn => (first | exact List.not_mem_nil | (simp [others, unordB, cC]; done) | (simp [others, unordB, cC]; omega)))) | (apply Free.from; (case h => assumption); (case hi => omega)) | exact Top.free (by assumption) (by omega) | (apply Free.miss; case h => omega))); done) | fail) : Free s i := h
theorem frees_ {s : AHeap} {i : Nat} (h : Free s i := by first | ((repeat' (first | assumption | exact Top.free hT (by omega) | (apply Free.miss; case h => omega))); done) | fail) : Free s i := h
theorem fr_ {s s1 : AHeap} {l : List Nat} (h : Fr s s1 l := by first | ((repeat' (first | assumption | exact Fr.refl _ _ | (apply Fr.set; (case hid => simp)) | (apply Fr.new; (case hid => (repeat' (first | assumption | (apply Free.agree; (case ha => assumption); (case hn => (first | exact List.not_mem_nil | (simp [others, unordB, cC]; done) | (simp [others, unordB, cC]; omega)))) | (apply Free.from; (case h => assumption); (case hi => omega)) | exact Top.free (by assumption) (by omega) | (apply Free.miss; case h => omega))))))); done) | fail) : Fr s s1 l := h
theorem top_ {M : Nat} {s : AHeap} (h : Top M s := by first | ((repeat' (first | assumption | (apply Top.set; (case hi => omega)) | exact Top.mono (by assumption) (by omega))); done) | fail) : Top M s := h
theorem nrm_ {a b : List Value} (h : a = b := by first | ((first | exact Ab.Qz.tk rfl | exact Ab.Qz.sp rfl | ((try simp only [Ab.splice, Value.cells, List.toList_toArray, List.set_cons_zero, List.set_cons_succ, List.drop_succ_cons, List.drop_zero, List.take_succ_cons, List.take_zero, List.take_nil, List.drop_nil, Nat.zero_add, Nat.add_zero, Nat.reduceAdd, Nat.reduceMul, Int.reduceToNat, Int.toNat_zero, Int.toNat_one, Int.reduceSub, Int.reduceAdd, Nat.one_mul, Nat.zero_mul, Nat.mul_one]) <;> rfl)); done) | fail) : a = b := h
theorem evr_ {P : Program} {tm : Env} {s : AHeap} {r : List ResultVar} {l : List Value} (h : EvR P tm s r l := by first | ((repeat' (first | exact EvR.nil | apply EvR.tmp | (apply EvR.cellA; (case ha => rfl)) | (apply EvR.cell1; (case ha => rfl)) | (apply Ab.K.ev; first | exact Ev.hit | (apply Ev.missB; case h => rfl) | exact Ev.const | exact Ev.func | apply Ev.non | assumption | (apply Ev.arg; rfl)) | (apply Ab.K.at_; first | exact At.hit | (apply Ab.asm; assumption) | (apply At.var; assumption) | (apply At.agree; (case ha => assumption); (case hn => (first | exact List.not_mem_nil | (simp [others, unordB, cC]; done) | (simp [others, unordB, cC]; omega)))) | (apply At.sd; (case ha => assumption); (case hn => first | exact List.not_mem_nil | (simp; done) | (simp; omega))) | (apply At.miss; case h => omega)) | rfl)); done) | fail) : EvR P tm s r l := h
theorem gy_ {b w : Bool} {p q : Prop} (h : p) (hw : b = w := by first | assumption | fail) : GK b w p q := gY hw h
end Go.Proofs.Ytoiplbackllgfaa.Ab

/- Lists that a call leaves. -/
namespace Go.Proofs.Ytoiplbackllgfaa.Ab
set_option linter.unusedVariables false
set_option linter.unusedSimpArgs false
set_option linter.unusedSectionVars false
open Go.RowKit
/-- A list that a call leaves: nil, or all of a new block. -/
def NewL (s : AHeap) (es : Nat) (v : Value) (k : Nat) (xs : List Value) (s' : AHeap) : Prop :=
  (k = 0 ∧ xs = [] ∧ v = .slice none 0 0 ∧ s' = s) ∨ ∃ u, s u = none ∧ v = .slice (some ⟨u, 0, none⟩) k k ∧ xs.length = k * es ∧ s' = s.set u (.cells true es xs)
theorem Gr.newL {s s1 : AHeap} {es N k : Nat} {v : Value} {on : Option Nat} {xs : List Value} (G : Gr s1 es N v on k xs) (F : Fr s1 s []) (hT : Top N s) (hp : xs.all pl1 = true) :
    ∃ s', NewL s es v k xs s' ∧ Keeps s s1 s' v ∧ ∀ kk x, Keeps s s1 s' (.tuple #[v, .int kk x]) := by
  rcases G with ⟨rfl, rfl, rfl, rfl⟩ | ⟨q, rfl, rfl, h, hl, hq⟩
  · exact ⟨s, .inl ⟨rfl, rfl, rfl, rfl⟩, Keeps.fr F (plR.nm rfl), fun kk x => Keeps.fr F (plR.nm rfl)⟩
  · refine ⟨s.set q (.cells true es xs), .inr ⟨q, hT.none hq, rfl, hl, rfl⟩, ?_, fun kk x => ?_⟩
    · exact Keeps.upd [(q, _)] (fun i _ c hc => F i (by simp) c hc) ⟨⟨h, nm_scal hp⟩, trivial⟩ (updH_some (.inr (by simp)))
    · refine Keeps.upd [(q, _)] (fun i _ c hc => F i (by simp) c hc) ⟨⟨h, nm_scal hp⟩, trivial⟩ ?_
      intro y hy
      simp only [List.mem_toArray, List.mem_cons, List.not_mem_nil, or_false] at hy
      rcases hy with rfl | rfl
      · exact updH_some (.inr (by simp))
      · trivial
theorem NewL.fr {s s' : AHeap} {es k : Nat} {v : Value} {xs : List Value} (h : NewL s es v k xs s') : Fr s' s [] := by
  rcases h with ⟨_, _, _, rfl⟩ | ⟨u, hu, _, _, rfl⟩
  · exact Fr.refl _ _
  · exact Fr.new (by unfold Free; exact hu) (Fr.refl _ _)
theorem NewL.top {s s' : AHeap} {es k N : Nat} {v : Value} {xs : List Value} (h : NewL s es v k xs s') (hT : Top N s) : ∃ M, N ≤ M ∧ Top M s' := by
  rcases h with ⟨_, _, _, rfl⟩ | ⟨u, hu, _, _, rfl⟩
  · exact ⟨N, Nat.le_refl _, hT⟩
  · exact ⟨max N (u + 1), by omega, (hT.mono (by omega)).set (by omega)⟩
theorem NewL.val {s s' : AHeap} {es k : Nat} {v : Value} {xs : List Value} (h : NewL s es v k xs s') : v = .slice none 0 0 ∨ ∃ u, v = .slice (some ⟨u, 0, none⟩) k k := by
  rcases h with ⟨_, _, h, _⟩ | ⟨u, _, h, _, _⟩
  · exact .inl h
  · exact .inr ⟨u, h⟩
end Go.Proofs.Ytoiplbackllgfaa.Ab

/- Functions that leave new blocks only: what lies there, and the part of it that is told. -/
namespace Go.Proofs.Ytoiplbackllgfaa.Ab
set_option linter.unusedVariables false
set_option linter.unusedSimpArgs false
set_option linter.unusedSectionVars false
open Go.RowKit
theorem Sub.refl (s : AHeap) : Sub s s := fun _ _ h => h
theorem Sub.trans {a b c : AHeap} (h : Sub a b) (k : Sub b c) : Sub a c := fun i x hx => k i x (h i x hx)
theorem Sub.at_ {b s : AHeap} (h : Sub b s) {i : Nat} {c : ABlk} (a : At b i c) : At s i c := At.var (h i c a.eq)
theorem Sub.fr {b s : AHeap} (h : Sub b s) : Fr s b [] := fun i _ c hc => h i c hc
theorem Sub.is {b s : AHeap} (h : Sub b s) {i : Nat} (hi : (b i).isSome = true) : (s i).isSome = true := by
  cases e : b i with
  | none => rw [e] at hi; cases hi
  | some c => rw [h i c e]; rfl
theorem Sub.none {b s : AHeap} (h : Sub b s) {i : Nat} (hi : s i = none) : b i = none := by
  cases e : b i with
  | none => rfl
  | some c => rw [h i c e] at hi; cases hi
theorem Sub.new {s : AHeap} {N : Nat} {c : ABlk} (h : s N = Option.none) : Sub s (s.set N c) := fun i x hx => by
  rw [AHeap.set_other _ _ (fun e => by subst e; rw [h] at hx; cases hx)]; exact hx
theorem Sub.setR {b s : AHeap} {N : Nat} {c : ABlk} (h : Sub b s) (hn : b N = Option.none) : Sub b (s.set N c) := fun i x hx => by
  rw [AHeap.set_other _ _ (fun e => by subst e; rw [hn] at hx; cases hx)]; exact h i x hx
/-- Of 's0' the part 'b0' is told; now 's' is there, of which 'b' is told: what is new in 'b' is new in 's'. -/
structure Inv (s0 b0 s b : AHeap) : Prop where
  base : Sub b0 s0
  kp : Sub s0 s
  sub : Sub b s
  old : Sub b0 b
  new : ∀ i c, b i = some c → b0 i = some c ∨ s0 i = none
  cl : ∀ i c, b i = some c → b0 i = some c ∨ c.nm fun j => (b j).isSome = true
  fin : ∀ M, Top M s0 → ∃ M', M ≤ M' ∧ Top M' s
/-- A name of one's own that is not told. -/
structure Prv (s0 s b : AHeap) (i : Nat) : Prop where
  z : s0 i = none
  b : b i = none
  s : (s i).isSome = true
namespace Inv
variable {s0 b0 s b s' b' : AHeap}
theorem refl (h : Sub b s) : Inv s b s b := ⟨h, Sub.refl _, h, Sub.refl _, fun _ _ h => .inl h, fun _ _ h => .inl h, fun M h => ⟨M, Nat.le_refl _, h⟩⟩
theorem trans (h : Inv s0 b0 s b) (k : Inv s b s' b') : Inv s0 b0 s' b' where
  base := h.base
  kp := h.kp.trans k.kp
  sub := k.sub
  old := h.old.trans k.old
  new := fun i c hc => (k.new i c hc).elim (h.new i c) fun e => .inr (h.kp.none e)
  cl := fun i c hc => (k.cl i c hc).elim (fun e => (h.cl i c e).imp id (ABlk.nm_imp fun _ hj => k.old.is hj)) .inr
  fin := fun M hM => by
    obtain ⟨M1, h1, T1⟩ := h.fin M hM
    obtain ⟨M2, h2, T2⟩ := k.fin M1 T1
    exact ⟨M2, Nat.le_trans h1 h2, T2⟩
theorem box {N : Nat} {c : ABlk} (h : Inv s0 b0 s b) (hz : s0 N = none) (hb : b N = none) : Inv s0 b0 (s.set N c) b where
  base := h.base
  kp := fun i x hx => by
    rw [AHeap.set_other _ _ (fun e => by subst e; rw [hz] at hx; cases hx)]; exact h.kp i x hx
  sub := fun i x hx => by
    rw [AHeap.set_other _ _ (fun e => by subst e; rw [hb] at hx; cases hx)]; exact h.sub i x hx
  old := h.old
  new := h.new
  cl := h.cl
  fin := fun M hM => by
    obtain ⟨M1, h1, T1⟩ := h.fin M hM
    exact ⟨max M1 (N + 1), by omega, (T1.mono (by omega)).set (by omega)⟩
theorem none_of {N : Nat} (h : Inv s0 b0 s b) (hs : s N = none) : s0 N = none ∧ b N = none := ⟨h.kp.none hs, h.sub.none hs⟩
/-- A box under a new name. -/
theorem boxN {N : Nat} {c : ABlk} (h : Inv s0 b0 s b) (hs : s N = none) : Inv s0 b0 (s.set N c) b := h.box (h.kp.none hs) (h.sub.none hs)
theorem boxT {M N : Nat} {c : ABlk} (h : Inv s0 b0 s b) (T : Top M s) (hN : M ≤ N) : Inv s0 b0 (s.set N c) b := h.boxN (T.none hN)
theorem boxP {N : Nat} {c : ABlk} (h : Inv s0 b0 s b) (p : Prv s0 s b N) : Inv s0 b0 (s.set N c) b := h.box p.z p.b
/-- A block that is told from now on. -/
theorem adopt {N : Nat} {c : ABlk} (h : Inv s0 b0 s b) (hc : At s N c) (hz : s0 N = none) (hb : b N = none) (hn : c.nm fun j => (b j).isSome = true ∨ j = N) : Inv s0 b0 s (b.set N c) where
  base := h.base
  kp := h.kp
  sub := fun i x hx => by
    by_cases e : i = N
    · subst e; rw [AHeap.set_same] at hx; obtain rfl := Option.some.inj hx; exact hc.eq
    · rw [AHeap.set_other _ _ e] at hx; exact h.sub i x hx
  old := fun i x hx => by
    rw [AHeap.set_other _ _ (fun e => by subst e; rw [h.old _ _ hx] at hb; cases hb)]; exact h.old i x hx
  new := fun i x hx => by
    by_cases e : i = N
    · subst e; exact .inr hz
    · rw [AHeap.set_other _ _ e] at hx; exact h.new i x hx
  cl := fun i x hx => by
    have hd : ∀ j, (b j).isSome = true ∨ j = N → ((b.set N c) j).isSome = true := fun j hj => by
      by_cases e : j = N
      · subst e; rw [AHeap.set_same]; rfl
      · rw [AHeap.set_other _ _ e]; exact hj.resolve_right e
    by_cases e : i = N
    · subst e; rw [AHeap.set_same] at hx; obtain rfl := Option.some.inj hx; exact .inr (ABlk.nm_imp hd hn)
    · rw [AHeap.set_other _ _ e] at hx; exact (h.cl i x hx).imp id (ABlk.nm_imp fun j hj => hd j (.inl hj))
  fin := h.fin
theorem add {N : Nat} {c : ABlk} (h : Inv s0 b0 s b) (hs : s N = none) (hn : c.nm fun j => (b j).isSome = true ∨ j = N) : Inv s0 b0 (s.set N c) (b.set N c) :=
  (h.boxN hs).adopt At.hit (h.kp.none hs) (h.sub.none hs) hn
/-- An append to a list of one's own. -/
theorem grew {on : Option Nat} {N : Nat} {c : ABlk} (h : Inv s0 b0 s b) (g : Grew s s' on N c) (ho : ∀ q, on = some q → s0 q = none ∧ b q = none) : Inv s0 b0 s' b where
  base := h.base
  kp := fun i x hx => by
    rw [g.off i (fun e => by have := (ho i e).1; rw [this] at hx; cases hx) (fun e => by subst e; have := h.kp _ _ hx; rw [g.free] at this; cases this)]; exact h.kp i x hx
  sub := fun i x hx => by
    rw [g.off i (fun e => by have := (ho i e).2; rw [this] at hx; cases hx) (fun e => by subst e; have := h.sub _ _ hx; rw [g.free] at this; cases this)]; exact h.sub i x hx
  old := h.old
  new := h.new
  cl := h.cl
  fin := fun M hM => by
    obtain ⟨M1, h1, T1⟩ := h.fin M hM
    refine ⟨max (max M1 (N + 1)) ((on.getD 0) + 1), by omega, fun i hi => ?_⟩
    rw [g.off i (fun e => by rw [e] at hi; simp only [Option.getD_some] at hi; omega) (by omega)]
    exact T1 i (by omega)
theorem is (h : Inv s0 b0 s b) {i : Nat} (hi : (b i).isSome = true) : (s i).isSome = true := h.sub.is hi
/-- At a function's end. -/
theorem ret {v : Value} (h : Inv s0 b0 s b) (hv : nmR (fun i => (b i).isSome = true) v) : ∃ s', Keeps s0 s s' v ∧ Inv s0 b0 s' b := by
  have hd : ∀ i, (b i).isSome = true → ((match s0 i with | some x => some x | none => b i : Option ABlk)).isSome = true := fun i hi => by
    cases e : s0 i with
    | none => exact hi
    | some x => rfl
  refine ⟨fun i => match s0 i with | some x => some x | none => b i, ⟨fun i c hc => ?_, fun i hi => ?_, fun i c hc => ?_, nmR.imp hd hv⟩, ⟨h.base, fun i c hc => ?_, fun i c hc => ?_, h.old, h.new, h.cl, fun M hM => ?_⟩⟩
  · cases e : s0 i with
    | none => simp only [e] at hc; exact h.sub i c hc
    | some x => simp only [e] at hc; obtain rfl := Option.some.inj hc; exact h.kp i _ e
  · cases e : s0 i with
    | none => rw [e] at hi; cases hi
    | some x => simp only [e]; rfl
  · cases e : s0 i with
    | none =>
      simp only [e] at hc
      exact (h.cl i c hc).elim (fun e' => by rw [h.base _ _ e'] at e; cases e) fun e => .inr (ABlk.nm_imp hd e)
    | some x => simp only [e] at hc; exact .inl hc
  · simp only [hc]
  · cases e : s0 i with
    | none => exact hc
    | some x => exact (h.new i c hc).elim (fun e' => by have h2 := h.base _ _ e'; simp only [e] at h2 ⊢; exact h2) fun e' => by rw [e'] at e; cases e
  · obtain ⟨M1, h1, T1⟩ := h.fin M hM
    refine ⟨M1, h1, fun i hi => ?_⟩
    simp only [hM i (Nat.le_trans h1 hi)]
    exact h.sub.none (T1 i hi)
end Inv
namespace Prv
variable {s0 b0 s b s' b' : AHeap} {i : Nat}
theorem call (h : Prv s0 s b i) (k : Inv s b s' b') : Prv s0 s' b' i := by
  refine ⟨h.z, ?_, k.kp.is h.s⟩
  cases e : b' i with
  | none => rfl
  | some c => exact (k.new i c e).elim (fun e' => by rw [h.b] at e'; cases e') (fun e' => by have := h.s; rw [e'] at this; cases this)
theorem set {N : Nat} {c : ABlk} (h : Prv s0 s b i) : Prv s0 (s.set N c) b i := ⟨h.z, h.b, by
  by_cases e : i = N
  · subst e; rw [AHeap.set_same]; rfl
  · rw [AHeap.set_other _ _ e]; exact h.s⟩
theorem tell {N : Nat} {c : ABlk} (h : Prv s0 s b i) (hi : i ≠ N) : Prv s0 s (b.set N c) i := ⟨h.z, by rw [AHeap.set_other _ _ hi]; exact h.b, h.s⟩
theorem mk' (I : Inv s0 b0 s b) (hs : s i = none) {c : ABlk} : Prv s0 (s.set i c) b i := ⟨I.kp.none hs, I.sub.none hs, by rw [AHeap.set_same]; rfl⟩
theorem grew {on : Option Nat} {N : Nat} {c : ABlk} (h : Prv s0 s b i) (g : Grew s s' on N c) (ho : ∀ q, on = some q → q ≠ i) : Prv s0 s' b i := ⟨h.z, h.b, by
  by_cases e : i = N
  · subst e; rw [g.hit.eq]; rfl
  · rw [g.off i (fun e' => ho i e' rfl) e]; exact h.s⟩
theorem new (I : Inv s0 b0 s b) {on : Option Nat} {N : Nat} {c : ABlk} (g : Grew s s' on N c) : Prv s0 s' b N := ⟨I.kp.none g.free, I.sub.none g.free, by rw [g.hit.eq]; rfl⟩
end Prv
/-- What a call leaves that makes new blocks only. -/
def Pu (s b : AHeap) (Q : Value → AHeap → Prop) : Value → AHeap → Prop := fun v s' => ∃ b', Inv s b s' b' ∧ Q v b'
theorem RetE.pu {P : Program} {rs : List ResultVar} {s0 b0 s b : AHeap} {Q : Value → AHeap → Prop} {tm : Env} {l : List Value} {x : AExit} (hx : ∀ id, x ≠ .exit id) (I : Inv s0 b0 s b) (he : EvR P tm s rs l) (hg : goodRes l = true) (hq : Q (resV l) b) (hn : nmR (fun i => (b i).isSome = true) (resV l)) : RetE P rs s0 (Pu s0 b0 Q) x tm s := by
  obtain ⟨s', hk, I'⟩ := I.ret hn
  exact ⟨hx, l, s', he.eq, hg, ⟨b, I', hq⟩, hk⟩
theorem RetE.puR {P : Program} {rs : List ResultVar} {s0 b0 s b : AHeap} {Q : Value → AHeap → Prop} {tm : Env} {l : List Value} (I : Inv s0 b0 s b) (he : EvR P tm s rs l) (hg : goodRes l = true) (hq : Q (resV l) b) (hn : nmR (fun i => (b i).isSome = true) (resV l)) : RetE P rs s0 (Pu s0 b0 Q) .ret tm s :=
  RetE.pu (fun _ => by simp) I he hg hq hn
theorem RetE.puN {P : Program} {rs : List ResultVar} {s0 b0 s b : AHeap} {Q : Value → AHeap → Prop} {tm : Env} {l : List Value} (I : Inv s0 b0 s b) (he : EvR P tm s rs l) (hg : goodRes l = true) (hq : Q (resV l) b) (hn : nmR (fun i => (b i).isSome = true) (resV l)) : RetE P rs s0 (Pu s0 b0 Q) .normal tm s :=
  RetE.pu (fun _ => by simp) I he hg hq hn

/-! ### data -/
/-- Elements of es cells each, one behind the other. -/
structure Cs {α : Type} (es : Nat) (R : List Value → α → Prop) (cs : List Value) (l : List α) : Prop where
  len : cs.length = l.length * es
  get : ∀ i x, l[i]? = some x → R ((cs.drop (i * es)).take es) x
namespace Cs
variable {α : Type} {es : Nat} {R S : List Value → α → Prop} {cs : List Value} {l : List α}
theorem nil : Cs es R [] ([] : List α) := ⟨by simp, fun i x h => by simp at h⟩
theorem mono (h : Cs es R cs l) (k : ∀ c x, R c x → S c x) : Cs es S cs l := ⟨h.len, fun i x hx => k _ _ (h.get i x hx)⟩
theorem snoc {c : List Value} {x : α} (h : Cs es R cs l) (hc : c.length = es) (hx : R c x) : Cs es R (cs ++ c) (l ++ [x]) := by
  refine ⟨by rw [List.length_append, List.length_append, h.len, hc, List.length_singleton, Nat.add_mul, Nat.one_mul], fun i y hy => ?_⟩
  by_cases hi : i < l.length
  · rw [List.getElem?_append_left hi] at hy
    have hle : (i + 1) * es ≤ l.length * es := Nat.mul_le_mul_right es hi
    rw [Nat.add_mul, Nat.one_mul] at hle
    rw [List.drop_append_of_le_length (by rw [h.len]; omega), List.take_append_of_le_length (by rw [List.length_drop, h.len]; omega)]
    exact h.get i y hy
  · have e : i = l.length := by
      have := (List.getElem?_eq_some_iff.1 hy).1
      simp only [List.length_append, List.length_singleton] at this; omega
    subst e
    rw [List.getElem?_append_right (Nat.le_refl _), Nat.sub_self] at hy
    obtain rfl : x = y := by simpa using hy
    rw [← h.len, List.drop_left, ← hc, List.take_length]; exact hx
theorem append {cs' : List Value} {l' : List α} (h : Cs es R cs l) (k : Cs es R cs' l') : Cs es R (cs ++ cs') (l ++ l') := by
  refine ⟨by rw [List.length_append, List.length_append, h.len, k.len, Nat.add_mul], fun i y hy => ?_⟩
  by_cases hi : i < l.length
  · rw [List.getElem?_append_left hi] at hy
    have hle : (i + 1) * es ≤ l.length * es := Nat.mul_le_mul_right es hi
    rw [Nat.add_mul, Nat.one_mul] at hle
    rw [List.drop_append_of_le_length (by rw [h.len]; omega), List.take_append_of_le_length (by rw [List.length_drop, h.len]; omega)]
    exact h.get i y hy
  · rw [List.getElem?_append_right (by omega)] at hy
    have e : i * es = cs.length + (i - l.length) * es := by rw [h.len, ← Nat.add_mul]; congr 1; omega
    rw [e, ← List.drop_drop, List.drop_left]
    exact k.get _ y hy
theorem part (h : Cs es R cs l) (i n : Nat) : Cs es R ((cs.drop (i * es)).take (n * es)) ((l.drop i).take n) := by
  refine ⟨by rw [List.length_take, List.length_take, List.length_drop, List.length_drop, h.len, ← Nat.sub_mul]; exact Nat.mul_min_mul_right .. , fun j y hy => ?_⟩
  have hj := (List.getElem?_eq_some_iff.1 hy).1
  rw [List.length_take] at hj
  rw [List.getElem?_take_of_lt (by omega), List.getElem?_drop] at hy
  have hle : (j + 1) * es ≤ n * es := Nat.mul_le_mul_right es (by omega)
  rw [Nat.add_mul, Nat.one_mul] at hle
  have := h.get _ y hy
  rw [Nat.add_mul] at this
  rw [List.drop_take, List.drop_drop, List.take_take, Nat.min_eq_left (by omega)]
  exact this
end Cs
/-- A slice of elements. -/
inductive Sl {α : Type} (b : AHeap) (es : Nat) (R : List Value → α → Prop) : Value → List α → Prop
  | nil : Sl b es R (.slice none 0 0) []
  | blk {o off n c : Nat} {sp : Option Nat} {rw : Bool} {cs : List Value} {l : List α} (h : At b o (.cells rw es cs)) (hn : n = l.length) (hc : n ≤ c) (hx : Cs es R ((cs.drop off).take (n * es)) l) : Sl b es R (.slice (some ⟨o, off, sp⟩) n c) l
namespace Sl
variable {α : Type} {b s : AHeap} {es : Nat} {R S : List Value → α → Prop} {v : Value} {l : List α}
theorem mono (h : Sl b es R v l) (hs : Sub b s) (k : ∀ c x, R c x → S c x) : Sl s es S v l := by
  cases h with
  | nil => exact .nil
  | blk h hn hc hx => exact .blk (hs.at_ h) hn hc (hx.mono k)
theorem isl (h : Sl b es R v l) : ∃ A c, v = .slice A l.length c ∧ l.length ≤ c := by
  cases h with
  | nil => exact ⟨none, 0, rfl, Nat.le_refl _⟩
  | blk h hn hc hx => subst hn; exact ⟨_, _, rfl, hc⟩
theorem src (h : Sl b es R v l) (hs : Sub b s) (he : es ≠ 0) : ∃ xs, Src s es v l.length xs ∧ Cs es R xs l := by
  cases h with
  | nil => exact ⟨[], Src.nil, Cs.nil⟩
  | @blk o off n c sp rw cs l h hn hc hx =>
    subst hn
    by_cases h0 : l.length = 0
    · obtain rfl := List.length_eq_zero_iff.1 h0
      exact ⟨[], Src.none, Cs.nil⟩
    · have hl := hx.len
      rw [List.length_take, List.length_drop] at hl
      exact ⟨_, Src.sl (hs.at_ h) h0 (by have : 0 < l.length * es := Nat.mul_pos (by omega) (by omega); omega) rfl, hx⟩
theorem nm (h : Sl b es R v l) : nm1 (fun i => (b i).isSome = true) v := by
  cases h with
  | nil => trivial
  | blk h => show (b _).isSome = true; rw [h.eq]; rfl
/-- One element: where it lies. -/
theorem elt (h : Sl b es R v l) (he : es ≠ 0) {i : Nat} {x : α} (hi : l[i]? = some x) : ∃ o off c sp rw cs, v = .slice (some ⟨o, off, sp⟩) l.length c ∧ l.length ≤ c ∧ At b o (.cells rw es cs) ∧ off + i * es + es ≤ cs.length ∧ R ((cs.drop (off + i * es)).take es) x := by
  cases h with
  | nil => simp at hi
  | @blk o off n c sp rw cs l h hn hc hx =>
    subst hn
    have hil := (List.getElem?_eq_some_iff.1 hi).1
    have hl := hx.len
    rw [List.length_take, List.length_drop] at hl
    have hle : (i + 1) * es ≤ l.length * es := Nat.mul_le_mul_right es hil
    rw [Nat.add_mul, Nat.one_mul] at hle
    refine ⟨o, off, c, sp, rw, cs, rfl, hc, h, by omega, ?_⟩
    have := hx.get i x hi
    rw [List.drop_take, List.take_take, List.drop_drop, Nat.min_eq_left (by omega)] at this
    exact this
end Sl
/-- Bytes. -/
def bc (l : List Int) : List Value := l.map (.int .u8)
def Byt (l : List Int) : Prop := ∀ x ∈ l, 0 ≤ x ∧ x ≤ 255
def RB (c : List Value) (x : Int) : Prop := c = [.int .u8 x] ∧ 0 ≤ x ∧ x ≤ 255
/-- A slice of bytes. -/
abbrev Bt (b : AHeap) (v : Value) (l : List Int) : Prop := Sl b 1 RB v l
theorem RB.cs {cs : List Value} {l : List Int} (h : Cs 1 RB cs l) : cs = bc l ∧ Byt l := by
  have hb : Byt l := fun x hx => by
    obtain ⟨i, hi, rfl⟩ := List.getElem_of_mem hx
    exact (h.get i _ (List.getElem?_eq_getElem hi)).2
  refine ⟨List.ext_getElem? fun i => ?_, hb⟩
  have hl := h.len
  rw [Nat.mul_one] at hl
  by_cases hi : i < l.length
  · have := (h.get i _ (List.getElem?_eq_getElem hi)).1
    rw [Nat.mul_one] at this
    have e : ((cs.drop i).take 1)[0]? = cs[i]? := by rw [List.getElem?_take_of_lt (by omega), List.getElem?_drop, Nat.add_zero]
    rw [← e, this]
    simp [bc, hi]
  · rw [List.getElem?_eq_none (by omega), List.getElem?_eq_none (by simp [bc]; omega)]
theorem RB.of {l : List Int} (h : Byt l) : Cs 1 RB (bc l) l := by
  refine ⟨by simp [bc], fun i x hx => ⟨?_, h x (List.mem_of_getElem? hx)⟩⟩
  rw [Nat.mul_one, List.take_one, List.head?_drop]
  simp [bc, hx]
theorem bc_length (l : List Int) : (bc l).length = l.length := by simp [bc]
theorem bc_pl (l : List Int) : (bc l).all pl1 = true := by simp [bc, pl1, plA]
theorem Cs.all {α : Type} {es : Nat} {R : List Value → α → Prop} {cs : List Value} {l : List α} {p : Value → Prop} (h : Cs es R cs l) (he : es ≠ 0) (hp : ∀ c x, R c x → ∀ y ∈ c, p y) : ∀ y ∈ cs, p y := fun y hy => by
  obtain ⟨j, hj, rfl⟩ := List.getElem_of_mem hy
  have hl := h.len
  have hi : j / es < l.length := Nat.div_lt_of_lt_mul (by rw [Nat.mul_comm, ← hl]; exact hj)
  refine hp _ _ (h.get _ _ (List.getElem?_eq_getElem hi)) _ ?_
  have hm := Nat.mod_lt j (Nat.pos_of_ne_zero he)
  have hd := Nat.div_add_mod j es
  rw [Nat.mul_comm] at hd
  refine List.mem_of_getElem? (i := j % es) ?_
  rw [List.getElem?_take_of_lt hm, List.getElem?_drop, hd, List.getElem?_eq_getElem hj]
/-- A kind of data: how its cells lie there. -/
structure Dat {α : Type} (es : Nat) (R : AHeap → List Value → α → Prop) : Prop where
  mono : ∀ b b' c x, Sub b b' → R b c x → R b' c x
  nm : ∀ b c x, R b c x → ∀ y ∈ c, nm1 (fun i => (b i).isSome = true) y
  ne : es ≠ 0
theorem Sl.sub {α : Type} {b b' : AHeap} {es : Nat} {R : AHeap → List Value → α → Prop} {v : Value} {l : List α} (h : Sl b es (R b) v l) (D : Dat es R) (hs : Sub b b') : Sl b' es (R b') v l := h.mono hs fun _ _ => D.mono _ _ _ _ hs
theorem Gr.kp {s s' : AHeap} {es N k : Nat} {v : Value} {on : Option Nat} {xs : List Value} (h : Gr s es N v on k xs) (hs : Sub s s') : Gr s' es N v on k xs := by
  rcases h with ⟨rfl, rfl, rfl, rfl⟩ | ⟨q, rfl, rfl, h, hl, hq⟩
  · exact Gr.nil
  · exact Gr.new (hs.at_ h) hl hq
/-- A list that was made is told. -/
theorem Gr.tell {α : Type} {s b s1 b1 : AHeap} {es N k : Nat} {R : AHeap → List Value → α → Prop} {v : Value} {on : Option Nat} {xs : List Value} {l : List α} (G : Gr s1 es N v on k xs) (D : Dat es R) (I : Inv s b s1 b1) (hP : ∀ o, on = some o → Prv s s1 b1 o) (C : Cs es (R b1) xs l) :
    ∃ b2, Inv s b s1 b2 ∧ Sub b1 b2 ∧ Sl b2 es (R b2) v l ∧ k = l.length := by
  rcases G with ⟨rfl, rfl, rfl, rfl⟩ | ⟨q, rfl, rfl, h, hl, hq⟩
  · have := C.len
    obtain rfl : l = [] := List.length_eq_zero_iff.1 ((Nat.mul_eq_zero.1 this.symm).resolve_right D.ne)
    exact ⟨b1, I, Sub.refl _, .nil, rfl⟩
  · have p := hP q rfl
    have hk : k = l.length := Nat.eq_of_mul_eq_mul_right (Nat.pos_of_ne_zero D.ne) (by rw [← hl, C.len])
    have hs : Sub b1 (b1.set q (.cells true es xs)) := fun i c hc => by rw [AHeap.set_other _ _ (fun e => by subst e; rw [p.b] at hc; cases hc)]; exact hc
    have I2 := I.adopt h p.z p.b (fun x hx => nm1.imp (fun j hj => .inl hj) (C.all D.ne (D.nm _) x hx))
    exact ⟨_, I2, hs, .blk At.hit hk (Nat.le_refl _) (by rw [List.drop_zero, ← hl, List.take_length]; exact C.mono fun _ _ => D.mono _ _ _ _ hs), hk⟩
/-- A slice of slices of bytes. -/
def RQ (b : AHeap) (c : List Value) (l : List Int) : Prop := ∃ v, c = [v] ∧ Bt b v l
abbrev Qt (b : AHeap) (v : Value) (q : List (List Int)) : Prop := Sl b 1 (RQ b) v q
theorem datQ : Dat 1 RQ := ⟨fun b b' c x hs ⟨v, e, h⟩ => ⟨v, e, h.mono hs fun _ _ h => h⟩, fun b c x ⟨v, e, h⟩ y hy => by subst e; rw [List.mem_singleton.1 hy]; exact h.nm, by decide⟩
theorem Sl.bt {b b' : AHeap} {v : Value} {l : List Int} (h : Bt b v l) (hs : Sub b b') : Bt b' v l := h.mono hs fun _ _ h => h
theorem Sl.qelt {b : AHeap} {v : Value} {q : List (List Int)} (h : Qt b v q) {i : Nat} {x : List Int} (hi : q[i]? = some x) : ∃ o off c sp rw cs w, v = .slice (some ⟨o, off, sp⟩) q.length c ∧ q.length ≤ c ∧ At b o (.cells rw 1 cs) ∧ cs[off + i]? = some w ∧ Bt b w x := by
  obtain ⟨o, off, c, sp, rw', cs, e, hc, ha, hle, w, hw, hb⟩ := h.elt (by decide) hi
  refine ⟨o, off, c, sp, rw', cs, w, e, hc, ha, ?_, hb⟩
  rw [Nat.mul_one] at hw
  have : ((cs.drop (off + i)).take 1)[0]? = cs[off + i]? := by rw [List.getElem?_take_of_lt (by decide), List.getElem?_drop, Nat.add_zero]
  rw [← this, hw]; rfl
/-! ### bytes as strings -/
theorem u8s_bc : ∀ l : List Int, u8s (bc l) = some l
  | [] => rfl
  | a :: l => by show (u8s (bc l)).map (a :: ·) = _; rw [u8s_bc l]; rfl
theorem strOf_eq {a b : List Int} (ha : Byt a) (hb : Byt b) : (strOf a).data.toList = (strOf b).data.toList ↔ a = b := by
  refine ⟨fun h => ?_, fun h => by rw [h]⟩
  simp only [strOf] at h
  induction a generalizing b with
  | nil => cases b with
    | nil => rfl
    | cons y b => simp at h
  | cons x a ih =>
    cases b with
    | nil => simp at h
    | cons y b =>
      simp only [List.map_cons, List.cons.injEq] at h
      have hx := ha x (List.mem_cons_self ..)
      have hy := hb y (List.mem_cons_self ..)
      have e := congrArg UInt8.toNat h.1
      simp only [UInt8.toNat_ofNat'] at e
      rw [show x = y by omega, ih (fun z hz => ha z (List.mem_cons_of_mem _ hz)) (fun z hz => hb z (List.mem_cons_of_mem _ hz)) h.2]
theorem strOf_dec {a b : List Int} (ha : Byt a) (hb : Byt b) : decide ((strOf a).data.toList = (strOf b).data.toList) = decide (a = b) := by
  rw [decide_eq_decide]; exact strOf_eq ha hb
theorem Sl.byt {b : AHeap} {v : Value} {l : List Int} (h : Bt b v l) : Byt l := by
  cases h with
  | nil => intro x hx; cases hx
  | blk h hn hc hx => exact (RB.cs hx).2
theorem O.strB {P : Program} {tm : Env} {s : AHeap} {K : Value → AHeap → Prop} {d : Option Tmp} {t : TypeId} {p : String} {af : Array Edge} {gd : Option (Nat × Bool)} {x : Operand} {src dst e : TypeId} {sz by_ : Nat} {z : Value} {es eb : Nat} {ez : Value} {sz' by' : Nat} {z' : Value} {v : Value} {l : List Int}
    [h1 : HasTD P src ⟨.slice e, sz, by_, z⟩] [h2 : HasTD P e ⟨.int .u8, es, eb, ez⟩] [h3 : HasTD P dst ⟨.str, sz', by', z'⟩] (hx : Ev tm x v) (h : Bt s v l) (hK : K (.string (strOf l)) s) : AOp P ⟨d, .convert src dst x, t, p, af, gd⟩ tm s K := by
  obtain ⟨xs, hs, hc⟩ := h.src (Sub.refl s) (by decide)
  obtain ⟨rfl, _⟩ := RB.cs hc
  obtain ⟨A, c, rfl, _⟩ := h.isl
  refine O.conv hx ?_ hK
  unfold Src at hs
  simp only [aconv, h1.is, h2.is, h3.is, hs, u8s_bc, Option.map_some]
/-! ### appends in drawing regions -/
theorem D.appG {P : Program} {ops : Array Oper} {C : List (List Nat)} {W : List (Nat × List Nat)} {tm : Env} {s : AHeap} {K : Env → AHeap → Prop} {i : Nat} {r : List Oper} {dd : Option Tmp} {t : TypeId} {p : String} {af : Array Edge} (N : Nat) {x y : Operand} {t1 t2 e : TypeId} {s1 b1 : Nat} {z1 : Value} {ke : TK} {es eb : Nat} {ez : Value} {k2 : TK} {s2 b2 : Nat} {z2 : Value} [h1 : HasTD P t1 ⟨.slice e, s1, b1, z1⟩] [he : HasTD P e ⟨ke, es, eb, ez⟩] [h2 : HasTD P t2 ⟨k2, s2, b2, z2⟩]
    {v vy : Value} {on : Option Nat} {n m : Nat} {xs ys : List Value} (hx : Ev tm x v) (hL : LAt s es v on n xs) (hy : Ev tm y vy) (hs : Src s es vy m ys) (hk : srcOk k2 = true) (hm : m ≠ 0) (hl : ys.length = m * es) (hz : ez.cells.size = es ∧ eb ≠ 0) (hb : (n + m) * eb ≤ 140737488355328) (hfree : Free s N)
    (hw : (∀ q, on = some q → q ∈ own W i) ∧ N ∈ own W i) (hot : others C W i = [])
    (h : ∀ s', Grew s s' on N (.cells true es (xs ++ ys)) → AOpsD P ops C W (i + 1) r (put tm dd (.slice (some ⟨N, 0, none⟩) (n + m) (n + m))) s' K) : AOpsD P ops C W i (⟨dd, .call ⟨.builtin .append, #[x, y], #[t1, t2]⟩, t, p, af, none⟩ :: r) tm s K := by
  cases hL with
  | nil =>
    rw [Nat.zero_add] at h hb
    refine D.anyk [(N, .cells true es ([] ++ ys))] (fun s' => Grew s s' none N (.cells true es ([] ++ ys))) (by simpa using hw.2) hot (O.appendNil N hx hy hs hk hm hl hz hb hfree ⟨rfl, rfl⟩) ⟨At.hit, fun i _ hi => AHeap.set_other _ _ hi, hfree⟩ h
  | @blk o sp _ _ ha hlx =>
    cases sp with
    | none =>
      refine D.anyk [(o, .dead), (N, .cells true es (xs ++ ys))] (fun s' => Grew s s' (some o) N (.cells true es (xs ++ ys))) (fun id hid => ?_) hot (O.appendMove N hx hy hs ha hk hm (by omega) hl hz hb hfree (by omega) (by rw [List.drop_zero, ← hlx, List.take_length]) ⟨rfl, rfl⟩) ⟨At.hit, fun i hi hc => by rw [updH, updH, updH, AHeap.set_other _ _ hc, AHeap.set_other _ _ (fun e => hi (by rw [e]))], hfree⟩ h
      rcases List.mem_cons.1 hid with e | e
      · rw [e]; exact hw.1 o rfl
      · rw [List.mem_singleton.1 e]; exact hw.2
    | some q =>
      refine D.anyk [(N, .cells true es (xs ++ ys))] (fun s' => Grew s s' (some o) N (.cells true es (xs ++ ys))) (by simpa using hw.2) hot (O.appendFull N hx hy hs (srcAll ha hlx) hk hm (by omega) hl hlx hz hb hfree ⟨rfl, rfl⟩) ⟨At.hit, fun i _ hc => AHeap.set_other _ _ hc, hfree⟩ h
/-! ### names in results -/
theorem nmT {D : Nat → Prop} {l : List Value} (h : ∀ x ∈ l, nmB D x) : nmR D (.tuple l.toArray) := by intro x hx; exact h x (by simpa using hx)
theorem nmG {D : Nat → Prop} {l : List Value} (h : ∀ x ∈ l, nm1 D x) : nmB D (.agg l.toArray) := by intro x hx; exact h x (by simpa using hx)
theorem Sl.nmB {α : Type} {b : AHeap} {es : Nat} {R : List Value → α → Prop} {v : Value} {l : List α} (h : Sl b es R v l) : Ab.nmB (fun i => (b i).isSome = true) v := by
  cases h with
  | nil => trivial
  | blk h => show (b _).isSome = true; rw [h.eq]; rfl
theorem nmGR {D : Nat → Prop} {l : List Value} (h : ∀ x ∈ l, nm1 D x) : nmR D (.agg l.toArray) := nmG h
theorem O.minK {P : Program} {tm : Env} {s : AHeap} {K : Value → AHeap → Prop} {d : Option Tmp} {t : TypeId} {p : String} {af : Array Edge} {gd : Option (Nat × Bool)} {x y : Operand} {ts : Array TypeId} {k k' : IntKind} {a b c : Int} (hx : Ev tm x (.int k a)) (hy : Ev tm y (.int k' b)) (hc : (if b < a then b else a) = c) (h : K (.int k c) s) :
    AOp P ⟨d, .call ⟨.builtin .min, #[x, y], ts⟩, t, p, af, gd⟩ tm s K := by subst hc; exact O.min2 hx hy h
/-! ### lists that a call hands over: nobody else has them -/
def GL {α : Type} (es : Nat) (R : AHeap → List Value → α → Prop) (l : List α) (s b : AHeap) (v : Value) (s' : AHeap) : Prop :=
  ∃ b' on xs, Inv s b s' b' ∧ Gr s' es 0 v on l.length xs ∧ Cs es (R b') xs l ∧ ∀ o, on = some o → Prv s s' b' o
theorem Inv.less {s0 b0 s b2 b1 s' : AHeap} (I1 : Inv s0 b0 s b1) (I2 : Inv s0 b0 s' b2) (h : Sub b1 b2) : Inv s0 b0 s' b1 :=
  ⟨I1.base, I2.kp, h.trans I2.sub, I1.old, I1.new, I1.cl, I2.fin⟩
theorem Gr.gl {α : Type} {s b s1 b1 : AHeap} {es N k : Nat} {R : AHeap → List Value → α → Prop} {v : Value} {on : Option Nat} {xs : List Value} {l : List α} (G : Gr s1 es N v on k xs) (D : Dat es R) (I : Inv s b s1 b1) (hP : ∀ o, on = some o → Prv s s1 b1 o) (C : Cs es (R b1) xs l) :
    ∃ s', GL es R l s b v s' ∧ Keeps s s1 s' v := by
  rcases G with ⟨rfl, rfl, rfl, rfl⟩ | ⟨q, rfl, rfl, h, hl, hq⟩
  · obtain ⟨s', hk, I'⟩ := I.ret (v := .slice none 0 0) trivial
    have := C.len
    obtain rfl : l = [] := List.length_eq_zero_iff.1 ((Nat.mul_eq_zero.1 this.symm).resolve_right D.ne)
    exact ⟨s', ⟨b1, none, [], I', Gr.nil, C, fun o e => by cases e⟩, hk⟩
  · have p := hP q rfl
    have hk : k = l.length := Nat.eq_of_mul_eq_mul_right (Nat.pos_of_ne_zero D.ne) (by rw [← hl, C.len])
    subst hk
    have hs : Sub b1 (b1.set q (.cells true es xs)) := Sub.new p.b
    have I2 := I.adopt h p.z p.b (fun x hx => nm1.imp (fun j hj => .inl hj) (C.all D.ne (D.nm _) x hx))
    have hm : ((b1.set q (.cells true es xs)) q).isSome = true := by rw [AHeap.set_same]; rfl
    obtain ⟨s', hk, I'⟩ := I2.ret (v := .slice (some ⟨q, 0, none⟩) l.length l.length) hm
    refine ⟨s', ⟨b1, some q, xs, I.less I' hs, Gr.new (I'.sub.at_ At.hit) hl (Nat.zero_le _), C, fun o e => ?_⟩, hk⟩
    obtain rfl := Option.some.inj e
    exact ⟨p.z, p.b, I'.sub.is hm⟩
theorem RetE.gl {α : Type} {P : Program} {rs : List ResultVar} {s b s1 b1 : AHeap} {es N k : Nat} {R : AHeap → List Value → α → Prop} {v : Value} {on : Option Nat} {xs : List Value} {l : List α} {tm : Env} {x : AExit} (hx : ∀ id, x ≠ .exit id) (G : Gr s1 es N v on k xs) (D : Dat es R) (I : Inv s b s1 b1) (hP : ∀ o, on = some o → Prv s s1 b1 o) (C : Cs es (R b1) xs l) (he : EvR P tm s1 rs [v]) : RetE P rs s (GL es R l s b) x tm s1 := by
  obtain ⟨s', h, hk⟩ := G.gl D I hP C
  exact ⟨hx, [v], s', he.eq, rfl, h, hk⟩
theorem GL.tell {α : Type} {es : Nat} {R : AHeap → List Value → α → Prop} {l : List α} {s b : AHeap} {v : Value} {s' : AHeap} (h : GL es R l s b v s') (D : Dat es R) : Pu s b (fun w b' => Sl b' es (R b') w l) v s' := by
  obtain ⟨b', on, xs, I, G, C, hP⟩ := h
  obtain ⟨b2, I2, _, hw, _⟩ := G.tell D I hP C
  exact ⟨b2, I2, hw⟩
/-- A part of a slice. -/
theorem Sl.cut {α : Type} {b : AHeap} {es : Nat} {R : List Value → α → Prop} {l : List α} {o off n c : Nat} {sp : Option Nat} (h : Sl b es R (.slice (some ⟨o, off, sp⟩) n c) l) (i m : Nat) (hm : i + m ≤ l.length) (sp' : Option Nat) (c' : Nat) (hc : m ≤ c') : Sl b es R (.slice (some ⟨o, off + i * es, sp'⟩) m c') ((l.drop i).take m) := by
  cases h with
  | blk h hn hc2 hx =>
    refine .blk h (by rw [List.length_take, List.length_drop]; omega) hc ?_
    have := hx.part i m
    have hle : (i + m) * es ≤ n * es := Nat.mul_le_mul_right es (by omega)
    rw [Nat.add_mul] at hle
    rw [List.drop_take, List.take_take, List.drop_drop, Nat.min_eq_left (by omega)] at this
    exact this
/-- The same, and what else is told stays. -/
theorem Gr.tell2 {α : Type} {s b s1 b1 : AHeap} {es N k : Nat} {R : AHeap → List Value → α → Prop} {v : Value} {on : Option Nat} {xs : List Value} {l : List α} (G : Gr s1 es N v on k xs) (D : Dat es R) (I : Inv s b s1 b1) (hP : ∀ o, on = some o → Prv s s1 b1 o) (C : Cs es (R b1) xs l) :
    ∃ b2, Inv s b s1 b2 ∧ Sub b1 b2 ∧ Sl b2 es (R b2) v l ∧ ∀ i, on ≠ some i → Prv s s1 b1 i → Prv s s1 b2 i := by
  rcases G with ⟨rfl, rfl, rfl, rfl⟩ | ⟨q, rfl, rfl, h, hl, hq⟩
  · have := C.len
    obtain rfl : l = [] := List.length_eq_zero_iff.1 ((Nat.mul_eq_zero.1 this.symm).resolve_right D.ne)
    exact ⟨b1, I, Sub.refl _, .nil, fun i _ h => h⟩
  · have p := hP q rfl
    have hk : k = l.length := Nat.eq_of_mul_eq_mul_right (Nat.pos_of_ne_zero D.ne) (by rw [← hl, C.len])
    have hs : Sub b1 (b1.set q (.cells true es xs)) := Sub.new p.b
    have I2 := I.adopt h p.z p.b (fun x hx => nm1.imp (fun j hj => .inl hj) (C.all D.ne (D.nm _) x hx))
    exact ⟨_, I2, hs, .blk At.hit hk (Nat.le_refl _) (by rw [List.drop_zero, ← hl, List.take_length]; exact C.mono fun _ _ => D.mono _ _ _ _ hs), fun i hi h => h.tell fun e => hi (by rw [e])⟩
theorem Sl.open_ {α : Type} {b : AHeap} {es : Nat} {R : List Value → α → Prop} {v : Value} {l : List α} (h : Sl b es R v l) : (v = .slice none 0 0 ∧ l = []) ∨ ∃ o off c sp rw cs, v = .slice (some ⟨o, off, sp⟩) l.length c ∧ l.length ≤ c ∧ At b o (.cells rw es cs) ∧ Cs es R ((cs.drop off).take (l.length * es)) l := by
  cases h with
  | nil => exact .inl ⟨rfl, rfl⟩
  | blk h hn hc hx => subst hn; exact .inr ⟨_, _, _, _, _, _, rfl, hc, h, hx⟩
/-! ### an append of any list, be it empty -/
inductive AppR (s s' : AHeap) (on on' : Option Nat) (N : Nat) : Prop
  | same (h : s' = s) (e : on' = on)
  | grew {b : ABlk} (g : Grew s s' on N b) (e : on' = some N)
namespace AppR
variable {s0 b0 s s' b : AHeap} {on on' : Option Nat} {N : Nat}
theorem inv (a : AppR s s' on on' N) (I : Inv s0 b0 s b) (hP : ∀ o, on = some o → Prv s0 s b o) : Inv s0 b0 s' b := by
  cases a with
  | same h e => rw [h]; exact I
  | grew g e => exact I.grew g fun q e => ⟨(hP q e).z, (hP q e).b⟩
theorem prv (a : AppR s s' on on' N) {i : Nat} (p : Prv s0 s b i) (hi : ∀ o, on = some o → o ≠ i) : Prv s0 s' b i := by
  cases a with
  | same h e => rw [h]; exact p
  | grew g e => exact p.grew g hi
theorem own (a : AppR s s' on on' N) (I : Inv s0 b0 s b) (hP : ∀ o, on = some o → Prv s0 s b o) : ∀ o, on' = some o → Prv s0 s' b o := by
  cases a with
  | same h e => rw [h, e]; exact hP
  | grew g e => rw [e]; intro o e; obtain rfl := Option.some.inj e; exact Prv.new I g
theorem at_ (a : AppR s s' on on' N) {i : Nat} {c : ABlk} (h : At s i c) (hi : ∀ o, on = some o → o ≠ i) : At s' i c := by
  cases a with
  | same h' e => rw [h']; exact h
  | grew g e => exact At.var (by rw [g.off i (fun e => hi i e rfl) (fun e => by subst e; have := g.free; rw [h.eq] at this; cases this)]; exact h.eq)
theorem top (a : AppR s s' on on' N) {M : Nat} (T : Top M s) (hN : M ≤ N) (hlt : ∀ o, on = some o → o < M) : Top (N + 1) s' := by
  cases a with
  | same h' e => rw [h']; exact T.mono (by omega)
  | grew g e => exact g.topN (T.mono hN) fun q e => Nat.lt_of_lt_of_le (hlt q e) hN
theorem ne (a : AppR s s' on on' N) {i : Nat} (hi : ∀ o, on = some o → o ≠ i) (hN : N ≠ i) : ∀ o, on' = some o → o ≠ i := by
  cases a with
  | same h' e => rw [e]; exact hi
  | grew g e => rw [e]; intro o e; obtain rfl := Option.some.inj e; exact hN
end AppR
theorem O.appendA {P : Program} {tm : Env} {s : AHeap} {K : Value → AHeap → Prop} {d : Option Tmp} {t : TypeId} {p : String} {af : Array Edge} {gd : Option (Nat × Bool)} (N : Nat) {x y : Operand} {t1 t2 e : TypeId} {s1 b1 : Nat} {z1 : Value} {ke : TK} {es eb : Nat} {ez : Value} {k2 : TK} {s2 b2 : Nat} {z2 : Value} [h1 : HasTD P t1 ⟨.slice e, s1, b1, z1⟩] [he : HasTD P e ⟨ke, es, eb, ez⟩] [h2 : HasTD P t2 ⟨k2, s2, b2, z2⟩]
    {v vy : Value} {on : Option Nat} {M k m : Nat} {xs ys : List Value} (hx : Ev tm x v) (G : Gr s es M v on k xs) (hy : Ev tm y vy) (hs : Src s es vy m ys) (hk : srcOk k2 = true) (hl : ys.length = m * es) (hz : ez.cells.size = es ∧ eb ≠ 0) (hb : (k + m) * eb ≤ 140737488355328) (hN : Free s N) (hMN : M ≤ N)
    (h : ∀ v' on' s', AppR s s' on on' N → Gr s' es M v' on' (k + m) (xs ++ ys) → (on.isSome = true → on'.isSome = true) → K v' s') : AOp P ⟨d, .call ⟨.builtin .append, #[x, y], #[t1, t2]⟩, t, p, af, gd⟩ tm s K := by
  by_cases hm : m = 0
  · subst hm
    obtain rfl : ys = [] := List.length_eq_zero_iff.1 (by omega)
    rcases G with ⟨rfl, rfl, rfl, rfl⟩ | ⟨q, rfl, rfl, ha, hlx, hq⟩
    · exact O.appendNoneN hx hy hs hk (h _ none s (.same rfl rfl) Gr.nil (fun e => e))
    · exact O.appendNone hx hy hs hk (h _ (some q) s (.same rfl rfl) (by rw [List.append_nil]; exact Gr.new ha hlx hq) (fun e => e))
  · refine O.appendL N hx G.lat hy hs hk hm hl hz hb hN fun s' g => h _ (some N) s' (.grew g rfl) (Gr.app g ?_ hMN) (fun _ => rfl)
    rw [List.length_append, hl, Nat.add_mul]
    rcases G with ⟨rfl, rfl, rfl, rfl⟩ | ⟨q, rfl, rfl, ha, hlx, hq⟩
    · simp
    · rw [hlx]
end Go.Proofs.Ytoiplbackllgfaa.Ab
