/- texts of this claim, one behind the other: AbZ, AbH. -/
import Derived.Test.YtdbnpghckgmaoaaM8

/- The rules of a walk gathered by kinds, so that 'constructor' finds the rule; closed steps as defaults of hypotheses. Written by gen_abz.py. -/
namespace Go.Proofs.Ytdbnpghckgmaoaa.Ab
set_option linter.unusedVariables false
set_option linter.unusedSimpArgs false
set_option linter.unusedSectionVars false
open Go.RowKit
/-- Is it told by several cells? -/
class Agg (td : TD) (b : outParam Bool) : Prop where
  is : td.agg = b
instance {fs : List (Nat × TypeId)} {s b : Nat} {z : Value} : Agg ⟨.struct fs, s, b, z⟩ true := ⟨rfl⟩
instance {n : Nat} {e : TypeId} {s b : Nat} {z : Value} : Agg ⟨.array n e, s, b, z⟩ true := ⟨rfl⟩
instance {k : IntKind} {s b : Nat} {z : Value} : Agg ⟨.int k, s, b, z⟩ false := ⟨rfl⟩
instance  {s b : Nat} {z : Value} : Agg ⟨.bool, s, b, z⟩ false := ⟨rfl⟩
instance  {s b : Nat} {z : Value} : Agg ⟨.str, s, b, z⟩ false := ⟨rfl⟩
instance {e : TypeId} {s b : Nat} {z : Value} : Agg ⟨.ptr e, s, b, z⟩ false := ⟨rfl⟩
instance {e : TypeId} {s b : Nat} {z : Value} : Agg ⟨.slice e, s, b, z⟩ false := ⟨rfl⟩
instance {k e : TypeId} {s b : Nat} {z : Value} : Agg ⟨.map k e, s, b, z⟩ false := ⟨rfl⟩
inductive Og (P : Program) (tm : Env) (s : AHeap) (K : Value → AHeap → Prop) : Op → Prop
  | move {x : Operand} {v : Value} (hx : Ev tm x v) (h : K v s) : Og P tm s K (.move x)
  | assign {x : Operand} {v : Value} (hx : Ev tm x v) (h : K v s) : Og P tm s K (.assign x)
  | fieldAddr {x : Operand} {xt : TypeId} {f id off : Nat} {fs : List (Nat × TypeId)} {sz by_ : Nat} {z : Value} [h1 : HasTD P xt ⟨.struct fs, sz, by_, z⟩] {o : Nat} {ft : TypeId} {tf : TD} (hx : Ev tm x (.pointer (some ⟨id, off, none⟩))) (hf : fs[f]? = some (o, ft)) (h2 : HasTD P ft tf) (hz : tf.size ≠ 0) (h : K (.pointer (some ⟨id, off + o, none⟩)) s) : Og P tm s K (.fieldAddr xt x f)
  | pickG {c x y : Operand} {b : Bool} (hc : Ev tm c (.bool b)) (h : GK b true (PK tm x K s) (PK tm y K s)) : Og P tm s K (.pick c x y)
  | ld {x : Operand} {xt : TypeId} {td : TD} [h1 : HasTD P xt td] {id off sz : Nat} {rw : Bool} {c : List Value} {v : Value} [ha : Agg td false] (hx : Ev tm x (.pointer (some ⟨id, off, none⟩))) (hs : At s id (.cells rw sz c)) (hv : Get c off v) (h : K v s) : Og P tm s K (.load xt x)
  | lda {x : Operand} {xt : TypeId} {td : TD} [h1 : HasTD P xt td] {id off sz : Nat} {rw : Bool} {c l : List Value} [ha : Agg td true] (hx : Ev tm x (.pointer (some ⟨id, off, none⟩))) (hs : At s id (.cells rw sz c)) (ho : Lt (off + td.size) (c.length + 1)) (hl : Nm ((c.drop off).take td.size) l) (h : K (.agg l.toArray) s) : Og P tm s K (.load xt x)
  | st {x y : Operand} {xt : TypeId} {td : TD} [h1 : HasTD P xt td] {id off sz : Nat} {c c' : List Value} {v : Value} [ha : Agg td false] (hz : td.size = 1) (hx : Ev tm x (.pointer (some ⟨id, off, none⟩))) (hy : Ev tm y v) (hs : At s id (.cells true sz c)) (hv : v.cells = #[v]) (hn : notTup v = true) (ho : Lt off c.length) (hc : Nm (c.set off v) c') (h : K undef (s.set id (.cells true sz c'))) : Og P tm s K (.store xt x y)
  | sta {x y : Operand} {xt : TypeId} {td : TD} [h1 : HasTD P xt td] {id off sz : Nat} {c l c' : List Value} [ha : Agg td true] (hx : Ev tm x (.pointer (some ⟨id, off, none⟩))) (hy : Ev tm y (.agg l.toArray)) (hs : At s id (.cells true sz c)) (hl : l.length = td.size) (ho : Lt (off + td.size) (c.length + 1)) (hc : Nm (splice c off l) c') (h : K undef (s.set id (.cells true sz c'))) : Og P tm s K (.store xt x y)
  | addG {x y : Operand} {ty : TypeId} {xt : TypeId} {sz by_ : Nat} {z : Value} [_h1 : HasTD P xt ⟨.int .i64, sz, by_, z⟩] {a b : Int} (hx : Ev tm x (.int .i64 a)) (hy : Ev tm y (.int .i64 b)) (hr : Rg (-9223372036854775808 ≤ a + b ∧ a + b ≤ 9223372036854775807)) (h : K (.int .i64 (a + b)) s) : Og P tm s K (.binOp .add xt x y ty)
  | subG {x y : Operand} {ty : TypeId} {xt : TypeId} {sz by_ : Nat} {z : Value} [_h1 : HasTD P xt ⟨.int .i64, sz, by_, z⟩] {a b : Int} (hx : Ev tm x (.int .i64 a)) (hy : Ev tm y (.int .i64 b)) (hr : Rg (-9223372036854775808 ≤ a - b ∧ a - b ≤ 9223372036854775807)) (h : K (.int .i64 (a - b)) s) : Og P tm s K (.binOp .sub xt x y ty)
  | mulG {x y : Operand} {ty : TypeId} {xt : TypeId} {sz by_ : Nat} {z : Value} [_h1 : HasTD P xt ⟨.int .i64, sz, by_, z⟩] {a b : Int} (hx : Ev tm x (.int .i64 a)) (hy : Ev tm y (.int .i64 b)) (hr : Rg (-9223372036854775808 ≤ a * b ∧ a * b ≤ 9223372036854775807)) (h : K (.int .i64 (a * b)) s) : Og P tm s K (.binOp .mul xt x y ty)
  | remG {x y : Operand} {ty : TypeId} {xt : TypeId} {kk : IntKind} {sz by_ : Nat} {z : Value} [_h1 : HasTD P xt ⟨.int kk, sz, by_, z⟩] {k : IntKind} {a b : Int} (hx : Ev tm x (.int k a)) (hy : Ev tm y (.int k b)) (hb : Rg (b ≠ 0)) (h : K (.int k (a.tmod b)) s) : Og P tm s K (.binOp .rem xt x y ty)
  | intG {op : BinOp} {x y : Operand} {ty : TypeId} {xt : TypeId} {kk : IntKind} {sz by_ : Nat} {z : Value} [_h1 : HasTD P xt ⟨.int kk, sz, by_, z⟩] {k k' : IntKind} {a b : Int} {v : Value} (hx : Ev tm x (.int k a)) (hy : Ev tm y (.int k' b)) (hv : aint op k a k' b = some v) (h : K v s) : Og P tm s K (.binOp op xt x y ty)
  | ptrEq {x y : Operand} {ty xt e : TypeId} {sz by_ : Nat} {z : Value} [h1 : HasTD P xt ⟨.ptr e, sz, by_, z⟩] {a : Option Addr} (hx : Ev tm x (.pointer a)) (hy : Ev tm y (.pointer none)) (h : K (.bool a.isNone) s) : Og P tm s K (.binOp .eql xt x y ty)
  | ptrNe {x y : Operand} {ty xt e : TypeId} {sz by_ : Nat} {z : Value} [h1 : HasTD P xt ⟨.ptr e, sz, by_, z⟩] {a : Option Addr} (hx : Ev tm x (.pointer a)) (hy : Ev tm y (.pointer none)) (h : K (.bool a.isSome) s) : Og P tm s K (.binOp .neq xt x y ty)
  | slcEq {x y : Operand} {ty xt e : TypeId} {sz by_ : Nat} {z : Value} [h1 : HasTD P xt ⟨.slice e, sz, by_, z⟩] {a : Option Addr} {n c : Nat} (hx : Ev tm x (.slice a n c)) (hy : Ev tm y (.slice none 0 0)) (h : K (.bool a.isNone) s) : Og P tm s K (.binOp .eql xt x y ty)
  | slcNe {x y : Operand} {ty xt e : TypeId} {sz by_ : Nat} {z : Value} [h1 : HasTD P xt ⟨.slice e, sz, by_, z⟩] {a : Option Addr} {n c : Nat} (hx : Ev tm x (.slice a n c)) (hy : Ev tm y (.slice none 0 0)) (h : K (.bool a.isSome) s) : Og P tm s K (.binOp .neq xt x y ty)
  | boolEq {x y : Operand} {ty xt : TypeId} {sz by_ : Nat} {z : Value} [h1 : HasTD P xt ⟨.bool, sz, by_, z⟩] {a b : Bool} (hx : Ev tm x (.bool a)) (hy : Ev tm y (.bool b)) (h : K (.bool (a == b)) s) : Og P tm s K (.binOp .eql xt x y ty)
  | boolNe {x y : Operand} {ty xt : TypeId} {sz by_ : Nat} {z : Value} [h1 : HasTD P xt ⟨.bool, sz, by_, z⟩] {a b : Bool} (hx : Ev tm x (.bool a)) (hy : Ev tm y (.bool b)) (h : K (.bool (!(a == b))) s) : Og P tm s K (.binOp .neq xt x y ty)
  | strEq {x y : Operand} {ty xt : TypeId} {a b : ByteArray} (hx : Ev tm x (.string a)) (hy : Ev tm y (.string b)) (h : K (.bool (decide (a.data.toList = b.data.toList))) s) : Og P tm s K (.binOp .eql xt x y ty)
  | strNe {x y : Operand} {ty xt : TypeId} {a b : ByteArray} (hx : Ev tm x (.string a)) (hy : Ev tm y (.string b)) (h : K (.bool (!decide (a.data.toList = b.data.toList))) s) : Og P tm s K (.binOp .neq xt x y ty)
  | len {x : Operand} {xt e : TypeId} {sz by_ : Nat} {z : Value} [h1 : HasTD P xt ⟨.slice e, sz, by_, z⟩] {a : Option Addr} {n c : Nat} (hx : Ev tm x (.slice a n c)) (h : K (.int .i64 n) s) : Og P tm s K (.call ⟨.builtin .len, #[x], #[xt]⟩)
  | lenStr {x : Operand} {xt : TypeId} {sz by_ : Nat} {z : Value} [h1 : HasTD P xt ⟨.str, sz, by_, z⟩] {b : ByteArray} (hx : Ev tm x (.string b)) (h : K (.int .i64 b.size) s) : Og P tm s K (.call ⟨.builtin .len, #[x], #[xt]⟩)
  | minG {x y : Operand} {ts : Array TypeId} {k k' : IntKind} {a b : Int} (hx : Ev tm x (.int k a)) (hy : Ev tm y (.int k' b)) (h : GK (decide (b < a)) true (K (.int k b) s) (K (.int k a) s)) : Og P tm s K (.call ⟨.builtin .min, #[x, y], ts⟩)
  | maxG {x y : Operand} {ts : Array TypeId} {k k' : IntKind} {a b : Int} (hx : Ev tm x (.int k a)) (hy : Ev tm y (.int k' b)) (h : GK (decide (b > a)) true (K (.int k b) s) (K (.int k a) s)) : Og P tm s K (.call ⟨.builtin .max, #[x, y], ts⟩)
  | ck {g : FuncId} {args : Array Operand} {ts : Array TypeId} {l : List Value} {v : Value} {s' : AHeap} (ha : Evs tm args.toList l) (hc : ACall P g l s v s') (h : K v s') : Og P tm s K (.call ⟨.value (.func g), args, ts⟩)
  | nilCheck {x : Operand} {a : Addr} (hx : Ev tm x (.pointer (some a))) (h : K (.pointer (some a)) s) : Og P tm s K (.nilCheck x)
  | not {x : Operand} {xt : TypeId} {b : Bool} (hx : Ev tm x (.bool b)) (h : K (.bool (!b)) s) : Og P tm s K (.unOp .not xt x)
  | indexG {x y : Operand} {xt e : TypeId} {sz by_ : Nat} {z : Value} {ke : TK} {es eb : Nat} {ez : Value} [h1 : HasTD P xt ⟨.slice e, sz, by_, z⟩] [h2 : HasTD P e ⟨ke, es, eb, ez⟩] {id off : Nat} {sp : Option Nat} {n c : Nat} {k : IntKind} {i : Int} (hx : Ev tm x (.slice (some ⟨id, off, sp⟩) n c)) (hy : Ev tm y (.int k i)) (hi : Rg (0 ≤ i ∧ i < n)) (h : IK off es i fun o => K (.pointer (some ⟨id, o, none⟩)) s) : Og P tm s K (.indexAddr xt x y)
  | indexArrG {x y : Operand} {xt e : TypeId} {m : Nat} {sz by_ : Nat} {z : Value} {ke : TK} {es eb : Nat} {ez : Value} [h1 : HasTD P xt ⟨.array m e, sz, by_, z⟩] [h2 : HasTD P e ⟨ke, es, eb, ez⟩] {id off : Nat} {k : IntKind} {i : Int} (hx : Ev tm x (.pointer (some ⟨id, off, none⟩))) (hy : Ev tm y (.int k i)) (hi : Rg (0 ≤ i ∧ i < m)) (h : IK off es i fun o => K (.pointer (some ⟨id, o, none⟩)) s) : Og P tm s K (.indexAddr xt x y)
  | xt {x : Operand} {i : Nat} {l : List Value} {v : Value} (hx : Ev tm x (.tuple l.toArray)) (hv : Get l i v) (h : K v s) : Og P tm s K (.extract x i)
  | convInt {x : Operand} {src dst : TypeId} {k k0 k1 : IntKind} {sz by_ : Nat} {z : Value} {sz' by' : Nat} {z' : Value} {a : Int} [h1 : HasTD P src ⟨.int k0, sz, by_, z⟩] [h2 : HasTD P dst ⟨.int k1, sz', by', z'⟩] (hx : Ev tm x (.int k a)) (h : K (.int k1 (k1.wrap a)) s) : Og P tm s K (.convert src dst x)
  | fieldV {x : Operand} {xt : TypeId} {f : Nat} {v v' : Value} (hx : Ev tm x v) (hv : afieldV P xt v f = some v') (h : K v' s) : Og P tm s K (.field xt x f)
  | bs {xt : TypeId} {parts : Array (Nat × Operand)} {l : List (Nat × Value)} {fs : List (Nat × TypeId)} {sz by_ : Nat} {z c0 c : List Value} {pl : List (Nat × Nat)} [h1 : HasTD P xt ⟨.struct fs, sz, by_, .agg z.toArray⟩] [h2 : HasPl P xt pl] (hz : z.all pl1 = true) (hp : EvP tm parts.toList l) (hc : afill (fun i => pl[i]?) z l = some c0) (hn : Nm c0 c) (h : K (.agg c.toArray) s) : Og P tm s K (.build xt parts)
  | br {xt e : TypeId} {parts : Array (Nat × Operand)} {l : List (Nat × Value)} {n sz by_ : Nat} {z c0 c : List Value} {te : TD} [h1 : HasTD P xt ⟨.array n e, sz, by_, .agg z.toArray⟩] [h2 : HasTD P e te] (hz : z.all pl1 = true) (hp : EvP tm parts.toList l) (hc : afill (fun i => some (i * te.size, te.size)) z l = some c0) (hn : Nm c0 c) (h : K (.agg c.toArray) s) : Og P tm s K (.build xt parts)
  | sliceLH {xt e : TypeId} {sz by_ eb es : Nat} {z z1 : Value} {ke : TK} {x lo hi : Operand} {id off n c : Nat} {sp : Option Nat} {rw : Bool} {cs : List Value} {l h : Int} {k1 k2 : IntKind} [h1 : HasTD P xt ⟨.slice e, sz, by_, z⟩] [h2 : HasTD P e ⟨ke, es, eb, z1⟩] (hx : Ev tm x (.slice (some ⟨id, off, sp⟩) n c)) (hs : At s id (.cells rw es cs)) (e1 : Ev tm lo (.int k1 l)) (e2 : Ev tm hi (.int k2 h)) (hr : Rg (0 ≤ l ∧ l ≤ h ∧ h ≤ c)) (hk : K (.slice (some ⟨id, off + l.toNat * es, sp⟩) (h.toNat - l.toNat) (c - l.toNat)) s) : Og P tm s K (.slice xt x (some lo) (some hi) none)
  | sliceL {xt e : TypeId} {sz by_ eb es : Nat} {z z1 : Value} {ke : TK} {x lo : Operand} {id off n c : Nat} {sp : Option Nat} {rw : Bool} {cs : List Value} {l : Int} {k1 : IntKind} [h1 : HasTD P xt ⟨.slice e, sz, by_, z⟩] [h2 : HasTD P e ⟨ke, es, eb, z1⟩] (hx : Ev tm x (.slice (some ⟨id, off, sp⟩) n c)) (hs : At s id (.cells rw es cs)) (e1 : Ev tm lo (.int k1 l)) (hr : Rg (0 ≤ l ∧ l ≤ n ∧ n ≤ c)) (hk : K (.slice (some ⟨id, off + l.toNat * es, sp⟩) (n - l.toNat) (c - l.toNat)) s) : Og P tm s K (.slice xt x (some lo) none none)
  | sliceH {xt e : TypeId} {sz by_ eb es : Nat} {z z1 : Value} {ke : TK} {x hi : Operand} {id off n c : Nat} {sp : Option Nat} {rw : Bool} {cs : List Value} {h : Int} {k2 : IntKind} [h1 : HasTD P xt ⟨.slice e, sz, by_, z⟩] [h2 : HasTD P e ⟨ke, es, eb, z1⟩] (hx : Ev tm x (.slice (some ⟨id, off, sp⟩) n c)) (hs : At s id (.cells rw es cs)) (e2 : Ev tm hi (.int k2 h)) (hr : Rg (0 ≤ h ∧ h ≤ c)) (hk : K (.slice (some ⟨id, off, sp⟩) h.toNat c) s) : Og P tm s K (.slice xt x none (some hi) none)
  | sliceLHM {xt e : TypeId} {sz by_ eb es : Nat} {z z1 : Value} {ke : TK} {x lo hi mx : Operand} {id off n c : Nat} {sp : Option Nat} {rw : Bool} {cs : List Value} {l h m : Int} {k1 k2 k3 : IntKind} [h1 : HasTD P xt ⟨.slice e, sz, by_, z⟩] [h2 : HasTD P e ⟨ke, es, eb, z1⟩] (hx : Ev tm x (.slice (some ⟨id, off, sp⟩) n c)) (hs : At s id (.cells rw es cs)) (e1 : Ev tm lo (.int k1 l)) (e2 : Ev tm hi (.int k2 h)) (e3 : Ev tm mx (.int k3 m)) (hr : Rg (0 ≤ l ∧ l ≤ h ∧ h ≤ m ∧ m ≤ c)) (hk : K (.slice (some ⟨id, off + l.toNat * es, some 0⟩) (h.toNat - l.toNat) (m.toNat - l.toNat)) s) : Og P tm s K (.slice xt x (some lo) (some hi) (some mx))
theorem Og.s {P : Program} {tm : Env} {s : AHeap} {K : Value → AHeap → Prop} {d : Option Tmp} {o : Op} {t : TypeId} {p : String} {af : Array Edge} {gd : Option (Nat × Bool)} (h : Og P tm s K o) : AOp P ⟨d, o, t, p, af, gd⟩ tm s K := by
  cases h with
  | move => apply O.move <;> first | assumption | exact Agg.is
  | assign => apply O.assign <;> first | assumption | exact Agg.is
  | fieldAddr => apply O.fieldAddr <;> first | assumption | exact Agg.is
  | pickG => apply O.pickG <;> first | assumption | exact Agg.is
  | ld => apply Qz.ld <;> first | assumption | exact Agg.is
  | lda => apply Qz.lda <;> first | assumption | exact Agg.is
  | st => apply Qz.st <;> first | assumption | exact Agg.is
  | sta => apply Qz.sta <;> first | assumption | exact Agg.is
  | addG => apply O.addG <;> first | assumption | exact Agg.is
  | subG => apply O.subG <;> first | assumption | exact Agg.is
  | mulG => apply O.mulG <;> first | assumption | exact Agg.is
  | remG => apply O.remG <;> first | assumption | exact Agg.is
  | intG => apply O.intG <;> first | assumption | exact Agg.is
  | ptrEq => apply O.ptrEq <;> first | assumption | exact Agg.is
  | ptrNe => apply O.ptrNe <;> first | assumption | exact Agg.is
  | slcEq => apply O.slcEq <;> first | assumption | exact Agg.is
  | slcNe => apply O.slcNe <;> first | assumption | exact Agg.is
  | boolEq => apply O.boolEq <;> first | assumption | exact Agg.is
  | boolNe => apply O.boolNe <;> first | assumption | exact Agg.is
  | strEq => apply O.strEq <;> first | assumption | exact Agg.is
  | strNe => apply O.strNe <;> first | assumption | exact Agg.is
  | len => apply O.len <;> first | assumption | exact Agg.is
  | lenStr => apply O.lenStr <;> first | assumption | exact Agg.is
  | minG => apply O.minG <;> first | assumption | exact Agg.is
  | maxG => apply O.maxG <;> first | assumption | exact Agg.is
  | ck => apply Qz.ck <;> first | assumption | exact Agg.is
  | nilCheck => apply O.nilCheck <;> first | assumption | exact Agg.is
  | not => apply O.not <;> first | assumption | exact Agg.is
  | indexG => apply O.indexG <;> first | assumption | exact Agg.is
  | indexArrG => apply O.indexArrG <;> first | assumption | exact Agg.is
  | xt => apply Qz.xt <;> first | assumption | exact Agg.is
  | convInt => apply O.convInt <;> first | assumption | exact Agg.is
  | fieldV => apply O.fieldV <;> first | assumption | exact Agg.is
  | bs => apply Qz.bs <;> first | assumption | exact Agg.is
  | br => apply Qz.br <;> first | assumption | exact Agg.is
  | sliceLH => apply O.sliceLH <;> first | assumption | exact Agg.is
  | sliceL => apply O.sliceL <;> first | assumption | exact Agg.is
  | sliceH => apply O.sliceH <;> first | assumption | exact Agg.is
  | sliceLHM => apply O.sliceLHM <;> first | assumption | exact Agg.is
/-- Ways on, behind a part of code. -/
inductive Xg : Prop → Prop
  | thenN {P : Program} {n : Nat} {Q : AExit → Env → AHeap → Prop} {tm : Env} {s : AHeap} {y : Code} (h : AWp P n y Q tm s) : Xg (thenQ P n y Q .normal tm s)
  | thenE {P : Program} {n id : Nat} {Q : AExit → Env → AHeap → Prop} {tm : Env} {s : AHeap} {y : Code} (h : Q (.exit id) tm s) : Xg (thenQ P n y Q (.exit id) tm s)
  | thenR {P : Program} {n : Nat} {Q : AExit → Env → AHeap → Prop} {tm : Env} {s : AHeap} {y : Code} (h : Q .ret tm s) : Xg (thenQ P n y Q .ret tm s)
  | blockN {id : Nat} {Q : AExit → Env → AHeap → Prop} {tm : Env} {s : AHeap} (h : Q .normal tm s) : Xg (blockQ id Q .normal tm s)
  | blockR {id : Nat} {Q : AExit → Env → AHeap → Prop} {tm : Env} {s : AHeap} (h : Q .ret tm s) : Xg (blockQ id Q .ret tm s)
  | blockE {id : Nat} {Q : AExit → Env → AHeap → Prop} {tm : Env} {s : AHeap} (h : Q .normal tm s) : Xg (blockQ id Q (.exit id) tm s)
  | blockO {id id' : Nat} {Q : AExit → Env → AHeap → Prop} {tm : Env} {s : AHeap} (hne : Nat.beq id' id = false) (h : Q (.exit id') tm s) : Xg (blockQ id Q (.exit id') tm s)
  | roundE {k id : Nat} {Q : AExit → Env → AHeap → Prop} {tm : Env} {s : AHeap} {I : Nat → Env → AHeap → Prop} (h : Q (.exit id) tm s) : Xg (roundQ I k Q (.exit id) tm s)
  | roundR {k : Nat} {Q : AExit → Env → AHeap → Prop} {tm : Env} {s : AHeap} {I : Nat → Env → AHeap → Prop} (h : Q .ret tm s) : Xg (roundQ I k Q .ret tm s)
  | seqR {P : Program} {n : Nat} {Q : AExit → Env → AHeap → Prop} {tm : Env} {s : AHeap} {id : Nat} {l : List Oper} {y : Code} (h : AOps P l.toArray l tm s fun tm s => AWp P n y Q tm s) : Xg (AWp P n (.seq (.region id l.toArray false) y) Q tm s)
  | seq {P : Program} {n : Nat} {Q : AExit → Env → AHeap → Prop} {tm : Env} {s : AHeap} {x y : Code} (h : AWp P n x (thenQ P n y Q) tm s) : Xg (AWp P n (.seq x y) Q tm s)
  | block {P : Program} {n : Nat} {Q : AExit → Env → AHeap → Prop} {tm : Env} {s : AHeap} {id : Nat} {c : Code} (h : AWp P n c (blockQ id Q) tm s) : Xg (AWp P n (.block id c) Q tm s)
  | region {P : Program} {n : Nat} {Q : AExit → Env → AHeap → Prop} {tm : Env} {s : AHeap} {id : Nat} {l : List Oper} (h : AOps P l.toArray l tm s fun tm' s' => Q .normal tm' s') : Xg (AWp P n (.region id l.toArray false) Q tm s)
  | skip {P : Program} {n : Nat} {Q : AExit → Env → AHeap → Prop} {tm : Env} {s : AHeap} (h : Q .normal tm s) : Xg (AWp P n .skip Q tm s)
  | ret {P : Program} {n : Nat} {Q : AExit → Env → AHeap → Prop} {tm : Env} {s : AHeap} (h : Q .ret tm s) : Xg (AWp P n .ret Q tm s)
  | exit {P : Program} {n : Nat} {Q : AExit → Env → AHeap → Prop} {tm : Env} {s : AHeap} {id : Nat} (h : Q (.exit id) tm s) : Xg (AWp P n (.exit id) Q tm s)
  | condG {P : Program} {n : Nat} {Q : AExit → Env → AHeap → Prop} {tm : Env} {s : AHeap} {c : Operand} {x y : Code} {b : Bool} (hc : Ev tm c (.bool b)) (h : GK b true (AWp P n x Q tm s) (AWp P n y Q tm s)) : Xg (AWp P n (.cond c x y) Q tm s)
  | gTT {p q : Prop} (h : p) : Xg (GK true true p q)
  | gFF {p q : Prop} (h : p) : Xg (GK false false p q)
  | gTF {p q : Prop} (h : q) : Xg (GK false true p q)
  | gFT {p q : Prop} (h : q) : Xg (GK true false p q)
  | op {P : Program} {ops : Array Oper} {r : List Oper} {tm : Env} {s : AHeap} {K : Env → AHeap → Prop} {d : Option Tmp} {t : TypeId} {p : String} {af : Array Edge} {o : Op} (h : AOp P ⟨d, o, t, p, af, none⟩ tm s fun v s' => AOps P ops r (put tm d v) s' K) : Xg (AOps P ops (⟨d, o, t, p, af, none⟩ :: r) tm s K)
  | nil {P : Program} {ops : Array Oper} {tm : Env} {s : AHeap} {K : Env → AHeap → Prop} (h : K tm s) : Xg (AOps P ops [] tm s K)
  | dnil {P : Program} {ops : Array Oper} {C : List (List Nat)} {W : List (Nat × List Nat)} {i : Nat} {tm : Env} {s : AHeap} {K : Env → AHeap → Prop} (h : K tm s) : Xg (AOpsD P ops C W i [] tm s K)
  | enil {tm : Env} : Xg (Evs tm [] [])
  | econs {tm : Env} {x : Operand} {v : Value} {l : List Operand} {m : List Value} (h : Ev tm x v) (r : Evs tm l m) : Xg (Evs tm (x :: l) (v :: m))
  | pnil {tm : Env} : Xg (EvP tm [] [])
  | pcons {tm : Env} {i : Nat} {x : Operand} {v : Value} {l : List (Nat × Operand)} {m : List (Nat × Value)} (h : Ev tm x v) (r : EvP tm l m) : Xg (EvP tm ((i, x) :: l) ((i, v) :: m))
  | onone {tm : Env} : Xg (EvO tm none none)
  | osome {tm : Env} {x : Operand} {v : Value} (h : Ev tm x v) : Xg (EvO tm (some x) (some v))
  | pk {tm : Env} {x : Operand} {K : Value → AHeap → Prop} {s : AHeap} {v : Value} (hx : Ev tm x v) (h : K v s) : Xg (PK tm x K s)
  | ik01 {i : Int} {F : Nat → Prop} (h : F i.toNat) : Xg (IK 0 1 i F)
  | ik0 {es : Nat} {i : Int} {F : Nat → Prop} (h : F (i.toNat * es)) : Xg (IK 0 es i F)
  | ikG {off es : Nat} {i : Int} {F : Nat → Prop} (h : F (off + i.toNat * es)) : Xg (IK off es i F)
theorem Xg.s {g : Prop} (h : Xg g) : g := by
  cases h with
  | thenN h => exact X.thenN h
  | thenE h => exact X.thenE h
  | thenR h => exact X.thenR h
  | blockN h => exact X.blockN h
  | blockR h => exact X.blockR h
  | blockE h => exact X.blockE h
  | blockO hne h => exact X.blockO (Nat.ne_of_beq_eq_false hne) h
  | roundE h => exact X.roundE h
  | roundR h => exact X.roundR h
  | seqR h => exact AWp.seqR h
  | seq h => exact AWp.seq h
  | block h => exact AWp.block h
  | region h => exact AWp.region h
  | skip h => exact AWp.skip h
  | ret h => exact AWp.ret h
  | exit h => exact AWp.exit h
  | condG hc h => exact X.condG hc h
  | gTT h => exact Ab.gTT h
  | gFF h => exact Ab.gFF h
  | gTF h => exact Ab.gTF h
  | gFT h => exact Ab.gFT h
  | op h => exact S.op h
  | nil h => exact S.nil h
  | dnil h => exact D.nil h
  | enil => exact Evs.nil
  | econs h r => exact Evs.cons h r
  | pnil => exact EvP.nil
  | pcons h r => exact EvP.cons h r
  | onone => exact EvO.none
  | osome h => exact EvO.some h
  | pk hx h => exact Ab.pk hx h
  | ik01 h => exact Ab.ik01 h
  | ik0 h => exact Ab.ik0 h
  | ikG h => exact Ab.ikG h
/-! closed steps: the tactic stands here, as the default of the hypothesis -/
theorem ev_ {tm : Env} {x : Operand} {v : Value} (h : Ev tm x v := by first | ((repeat' (first | exact Ev.hit | (apply Ev.missB; case h => rfl) | exact Ev.const | exact Ev.func | apply Ev.non | assumption | (apply Ev.arg; rfl))); done) | fail) : Ev tm x v := h
theorem evs_ {tm : Env} {x : List Operand} {v : List Value} (h : Evs tm x v := by first | ((repeat' (first | exact Evs.nil | (apply Evs.cons; case h => (repeat' (first | exact Ev.hit | (apply Ev.missB; case h => rfl) | exact Ev.const | exact Ev.func | apply Ev.non | assumption | (apply Ev.arg; rfl)))))); done) | fail) : Evs tm x v := h
theorem evp_ {tm : Env} {x : List (Nat × Operand)} {v : List (Nat × Value)} (h : EvP tm x v := by first | ((repeat' (first | exact EvP.nil | (apply EvP.cons; case h => (repeat' (first | exact Ev.hit | (apply Ev.missB; case h => rfl) | exact Ev.const | exact Ev.func | apply Ev.non | assumption | (apply Ev.arg; rfl)))))); done) | fail) : EvP tm x v := h
theorem at_ {s : AHeap} {i : Nat} {b : ABlk} (h : At s i b := by first | ((repeat' (first | exact At.hit | assumption | (apply At.var; assumption) | (apply At.agree; (case ha => assumption); (case hn => (first | exact List.not_mem_nil | (simp [others, unordB, cC]; done) | (simp [others, unordB, cC]; omega)))) | (apply At.miss; case h => omega) | (exact Top.free (by assumption) (by omega)))); done) | fail) : At s i b := h
theorem free_ {s : AHeap} {i : Nat} (h : Free s i := by first | ((repeat' (first | assumption | (apply Free.agree; (case ha => assumption); (case hn => (first | exact List.not_mem_nil | (simp [others, unordB, cC]; done) | (simp [others, unordB, cC]; omega)))) | (apply Free.from; (case h => assumption); (case hi => omega)) | exact Top.free (by assumption) (by omega) | (apply Free.miss; case h => omega))); done) | fail) : Free s i := h
theorem frees_ {s : AHeap} {i : Nat} (h : Free s i := by first | ((repeat' (first | assumption | exact Top.free hT (by omega) | (apply Free.miss; case h => omega))); done) | fail) : Free s i := h
theorem fr_ {s s1 : AHeap} {l : List Nat} (h : Fr s s1 l := by first | ((repeat' (first | assumption | exact Fr.refl _ _ | (apply Fr.set; (case hid => simp)) | (apply Fr.new; (case hid => (repeat' (first | assumption | (apply Free.agree; (case ha => assumption); (case hn => (first | exact List.not_mem_nil | (simp [others, unordB, cC]; done) | (simp [others, unordB, cC]; omega)))) | (apply Free.from; (case h => assumption); (case hi => omega)) | exact Top.free (by assumption) (by omega) | (apply Free.miss; case h => omega))))))); done) | fail) : Fr s s1 l := h
theorem top_ {M : Nat} {s : AHeap} (h : Top M s := by first | ((repeat' (first | assumption | (apply Top.set; (case hi => omega)) | exact Top.mono (by assumption) (by omega))); done) | fail) : Top M s := h
theorem nrm_ {a b : List Value} (h : a = b := by first | ((first | exact Ab.Qz.tk rfl | exact Ab.Qz.sp rfl | ((try simp only [Ab.splice, Value.cells, List.toList_toArray, List.set_cons_zero, List.set_cons_succ, List.drop_succ_cons, List.drop_zero, List.take_succ_cons, List.take_zero, List.take_nil, List.drop_nil, Nat.zero_add, Nat.add_zero, Nat.reduceAdd, Nat.reduceMul, Int.reduceToNat, Int.toNat_zero, Int.toNat_one, Int.reduceSub, Int.reduceAdd, Nat.one_mul, Nat.zero_mul, Nat.mul_one]) <;> rfl)); done) | fail) : a = b := h
theorem evr_ {P : Program} {tm : Env} {s : AHeap} {r : List ResultVar} {l : List Value} (h : EvR P tm s r l := by first | ((repeat' (first | exact EvR.nil | apply EvR.tmp | (apply EvR.cellA; (case ha => rfl)) | (apply EvR.cell1; (case ha => rfl)) | (apply Ab.K.ev; first | exact Ev.hit | (apply Ev.missB; case h => rfl) | exact Ev.const | exact Ev.func | apply Ev.non | assumption | (apply Ev.arg; rfl)) | (apply Ab.K.at_; first | exact At.hit | (apply Ab.asm; assumption) | (apply At.var; assumption) | (apply At.agree; (case ha => assumption); (case hn => (first | exact List.not_mem_nil | (simp [others, unordB, cC]; done) | (simp [others, unordB, cC]; omega)))) | (apply At.miss; case h => omega)) | rfl)); done) | fail) : EvR P tm s r l := h
theorem gy_ {b w : Bool} {p q : Prop} (h : p) (hw : b = w := by first | assumption | fail) : GK b w p q := gY hw h
end Go.Proofs.Ytdbnpghckgmaoaa.Ab

/- Lists that a call leaves. -/
namespace Go.Proofs.Ytdbnpghckgmaoaa.Ab
set_option linter.unusedVariables false
set_option linter.unusedSimpArgs false
set_option linter.unusedSectionVars false
open Go.RowKit
/-- A list that a call leaves: nil, or all of a new block. -/
def NewL (s : AHeap) (es : Nat) (v : Value) (k : Nat) (xs : List Value) (s' : AHeap) : Prop :=
  (k = 0 ∧ xs = [] ∧ v = .slice none 0 0 ∧ s' = s) ∨ ∃ u, s u = none ∧ v = .slice (some ⟨u, 0, none⟩) k k ∧ xs.length = k * es ∧ s' = s.set u (.cells true es xs)
theorem Gr.newL {s s1 : AHeap} {es N k : Nat} {v : Value} {on : Option Nat} {xs : List Value} (G : Gr s1 es N v on k xs) (F : Fr s1 s []) (hT : Top N s) (hp : xs.all pl1 = true) :
    ∃ s', NewL s es v k xs s' ∧ Keeps s s1 s' v ∧ ∀ kk x, Keeps s s1 s' (.tuple #[v, .int kk x]) := by
  rcases G with ⟨rfl, rfl, rfl, rfl⟩ | ⟨q, rfl, rfl, h, hl, hq⟩
  · exact ⟨s, .inl ⟨rfl, rfl, rfl, rfl⟩, Keeps.fr F (plR.nm rfl), fun kk x => Keeps.fr F (plR.nm rfl)⟩
  · refine ⟨s.set q (.cells true es xs), .inr ⟨q, hT.none hq, rfl, hl, rfl⟩, ?_, fun kk x => ?_⟩
    · exact Keeps.upd [(q, _)] (fun i _ c hc => F i (by simp) c hc) ⟨⟨h, nm_scal hp⟩, trivial⟩ (updH_some (.inr (by simp)))
    · refine Keeps.upd [(q, _)] (fun i _ c hc => F i (by simp) c hc) ⟨⟨h, nm_scal hp⟩, trivial⟩ ?_
      intro y hy
      simp only [List.mem_toArray, List.mem_cons, List.not_mem_nil, or_false] at hy
      rcases hy with rfl | rfl
      · exact updH_some (.inr (by simp))
      · trivial
theorem NewL.fr {s s' : AHeap} {es k : Nat} {v : Value} {xs : List Value} (h : NewL s es v k xs s') : Fr s' s [] := by
  rcases h with ⟨_, _, _, rfl⟩ | ⟨u, hu, _, _, rfl⟩
  · exact Fr.refl _ _
  · exact Fr.new (by unfold Free; exact hu) (Fr.refl _ _)
theorem NewL.top {s s' : AHeap} {es k N : Nat} {v : Value} {xs : List Value} (h : NewL s es v k xs s') (hT : Top N s) : ∃ M, N ≤ M ∧ Top M s' := by
  rcases h with ⟨_, _, _, rfl⟩ | ⟨u, hu, _, _, rfl⟩
  · exact ⟨N, Nat.le_refl _, hT⟩
  · exact ⟨max N (u + 1), by omega, (hT.mono (by omega)).set (by omega)⟩
theorem NewL.val {s s' : AHeap} {es k : Nat} {v : Value} {xs : List Value} (h : NewL s es v k xs s') : v = .slice none 0 0 ∨ ∃ u, v = .slice (some ⟨u, 0, none⟩) k k := by
  rcases h with ⟨_, _, h, _⟩ | ⟨u, _, h, _, _⟩
  · exact .inl h
  · exact .inr ⟨u, h⟩
end Go.Proofs.Ytdbnpghckgmaoaa.Ab
