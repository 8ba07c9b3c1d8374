/- texts of this claim, one behind the other: Ab9. -/
import Derived.Test.YtoiplbackllgfaaM8

/- The rules by which a region is walked over the abstract memory. -/
namespace Go.Proofs.Ytoiplbackllgfaa.Ab
set_option linter.unusedVariables false
set_option linter.unusedSimpArgs false
set_option linter.unusedSectionVars false
open Go.RowKit

class HasTD (P : Program) (t : TypeId) (td : outParam TD) : Prop where
  is : tdOf P t = some td

inductive Ev : Env → Operand → Value → Prop
  | const {tm v} : Ev tm (.const v) v
  | func {tm f} : Ev tm (.func f) (.func (.func f) #[] #[])
  | hit {tm t v} : Ev (put tm (some t) v) (.tmp t) v
  | miss {tm t d u v} (h : t ≠ d) (r : Ev tm (.tmp t) v) : Ev (put tm (some d) u) (.tmp t) v
  | non {tm t u v} (r : Ev tm (.tmp t) v) : Ev (put tm none u) (.tmp t) v
  | arg {l t v} (h : l[t]? = some v) : Ev (nargs l) (.tmp t) v
  | var {tm : Env} {t v} (h : tm t = v) : Ev tm (.tmp t) v
theorem Ev.eq {tm x v} (h : Ev tm x v) : ev tm x = v := by
  induction h with
  | const => rfl
  | func => rfl
  | hit => exact put_same
  | miss h r ih => simp only [ev] at ih ⊢; rw [put_other (by simpa using Ne.symm h)]; exact ih
  | non r ih => exact ih
  | arg h => simp [ev, nargs, List.getD, h]
  | var h => exact h
theorem Ev.missB {tm t d u v} (h : Nat.beq t d = false) (r : Ev tm (.tmp t) v) : Ev (put tm (some d) u) (.tmp t) v := .miss (Nat.ne_of_beq_eq_false h) r
/-- Several operands. -/
inductive Evs : Env → List Operand → List Value → Prop
  | nil {tm} : Evs tm [] []
  | cons {tm x v l m} (h : Ev tm x v) (r : Evs tm l m) : Evs tm (x :: l) (v :: m)
theorem Evs.eq {tm l m} (h : Evs tm l m) : l.map (ev tm) = m := by
  induction h with
  | nil => rfl
  | cons h r ih => rw [List.map_cons, h.eq, ih]
inductive EvO : Env → Option Operand → Option Value → Prop
  | none {tm} : EvO tm none none
  | some {tm x v} (h : Ev tm x v) : EvO tm (some x) (some v)
theorem EvO.eq {tm l m} (h : EvO tm l m) : l.map (ev tm) = m := by
  cases h with
  | none => rfl
  | some h => rw [Option.map_some, h.eq]
inductive EvP : Env → List (Nat × Operand) → List (Nat × Value) → Prop
  | nil {tm} : EvP tm [] []
  | cons {tm i x v l m} (h : Ev tm x v) (r : EvP tm l m) : EvP tm ((i, x) :: l) ((i, v) :: m)
theorem EvP.eq {tm l m} (h : EvP tm l m) : (l.map fun p => (p.1, ev tm p.2)) = m := by
  induction h with
  | nil => rfl
  | cons h r ih => rw [List.map_cons, h.eq, ih]

/-- A block is told. -/
def At (s : AHeap) (id : Nat) (b : ABlk) : Prop := s id = some b
theorem At.hit {s : AHeap} {id b} : At (s.set id b) id b := AHeap.set_same _ _ _
theorem At.miss {s : AHeap} {id id' b b'} (h : id ≠ id') (r : At s id b) : At (s.set id' b') id b := by unfold At; rw [AHeap.set_other _ _ h]; exact r
theorem At.var {s : AHeap} {id b} (h : s id = some b) : At s id b := h
/-- A name is free. -/
def Free (s : AHeap) (id : Nat) : Prop := s id = none
theorem Free.miss {s : AHeap} {id id' b'} (h : id ≠ id') (r : Free s id) : Free (s.set id' b') id := by unfold Free; rw [AHeap.set_other _ _ h]; exact r
theorem Free.from {s : AHeap} {N id : Nat} (h : ∀ i, N ≤ i → s i = none) (hi : N ≤ id) : Free s id := h id hi

/-- The cells of a slice or a string that is appended. -/
def Src (s : AHeap) (sz : Nat) (v : Value) (m : Nat) (xs : List Value) : Prop := srcCells s sz v = some (m, xs)
theorem Src.nil {s : AHeap} {sz n c : Nat} : Src s sz (.slice none n c) 0 [] := rfl
theorem Src.none {s : AHeap} {sz c : Nat} {a : Addr} : Src s sz (.slice (some a) 0 c) 0 [] := rfl
theorem Src.sl {s : AHeap} {id off sz n c : Nat} {sp : Option Nat} {rw : Bool} {cs xs : List Value} (h : At s id (.cells rw sz cs)) (hn : n ≠ 0) (hb : off + n * sz ≤ cs.length) (hx : (cs.drop off).take (n * sz) = xs) : Src s sz (.slice (some ⟨id, off, sp⟩) n c) n xs := by
  unfold Src At at *; subst hx; simp [srcCells, hn, h, hb]
theorem Src.str {s : AHeap} {sz : Nat} {b : ByteArray} : Src s sz (.string b) b.size (b.data.toList.map fun x => .int .u8 x.toNat) := rfl
/-- A list that grows: nil, or all of a block of its own. -/
inductive LAt (s : AHeap) (es : Nat) : Value → Option Nat → Nat → List Value → Prop
  | nil : LAt s es (.slice none 0 0) none 0 []
  | blk {o : Nat} {sp : Option Nat} {n : Nat} {xs : List Value} (h : At s o (.cells true es xs)) (hl : xs.length = n * es) : LAt s es (.slice (some ⟨o, 0, sp⟩) n n) (some o) n xs
/-- The memory behind an append: the new block, and all the others but for the old one. -/
structure Grew (s s' : AHeap) (on : Option Nat) (N : Nat) (b : ABlk) : Prop where
  hit : At s' N b
  off : ∀ i, on ≠ some i → i ≠ N → s' i = s i
  free : s N = none
theorem Grew.keep {s s' : AHeap} {on : Option Nat} {N : Nat} {b : ABlk} (h : Grew s s' on N b) {i : Nat} {c : ABlk} (hi : on ≠ some i) (hc : s i = some c) : s' i = some c := by
  rw [h.off i hi (fun e => by subst e; rw [h.free] at hc; cases hc)]; exact hc
theorem srcAll {s : AHeap} {o es n : Nat} {sp : Option Nat} {xs : List Value} (h : At s o (.cells true es xs)) (hl : xs.length = n * es) : Src s es (.slice (some ⟨o, 0, sp⟩) n n) n xs := by
  by_cases hn : n = 0
  · subst hn; rw [Nat.zero_mul] at hl; rw [List.length_eq_zero_iff.1 hl]; exact Src.none
  · exact Src.sl h hn (by omega) (by rw [List.drop_zero, ← hl, List.take_length])
theorem At.agree {U : List Nat} {t s : AHeap} {id : Nat} {b : ABlk} (ha : AgreeOff U t s) (hn : id ∉ U) (h : At s id b) : At t id b := by unfold At at *; rw [ha id hn]; exact h
theorem Free.agree {U : List Nat} {t s : AHeap} {id : Nat} (ha : AgreeOff U t s) (hn : id ∉ U) (h : Free s id) : Free t id := by unfold Free at *; rw [ha id hn]; exact h

/-- Both ways of a test. -/
def GK (b want : Bool) (run skip : Prop) : Prop := (b = want → run) ∧ (b = !want → skip)
section
variable {p q : Prop} {b w : Bool}
theorem gTT (h : p) : GK true true p q := ⟨fun _ => h, fun e => by cases e⟩
theorem gFF (h : p) : GK false false p q := ⟨fun _ => h, fun e => by cases e⟩
theorem gTF (h : q) : GK false true p q := ⟨fun e => (by cases e), fun _ => h⟩
theorem gFT (h : q) : GK true false p q := ⟨fun e => (by cases e), fun _ => h⟩
theorem gY (hw : b = w) (h : p) : GK b w p q := ⟨fun _ => h, fun e => by subst hw; cases b <;> cases e⟩
theorem gNT (hw : b = false) (h : q) : GK b true p q := ⟨fun e => (by subst hw; cases e), fun _ => h⟩
theorem gNF (hw : b = true) (h : q) : GK b false p q := ⟨fun e => (by subst hw; cases e), fun _ => h⟩
theorem gD {φ : Prop} {inst : Decidable φ} (ht : decide φ = true → φ → GK true w p q) (hf : decide φ = false → ¬ φ → GK false w p q) : GK (decide φ) w p q := by
  by_cases h : φ
  · rw [decide_eq_true h]; exact ht (decide_eq_true h) h
  · rw [decide_eq_false h]; exact hf (decide_eq_false h) h
theorem gDN {φ : Prop} {inst : Decidable φ} (ht : decide φ = true → φ → GK false w p q) (hf : decide φ = false → ¬ φ → GK true w p q) : GK (!decide φ) w p q := by
  by_cases h : φ
  · rw [decide_eq_true h]; exact ht (decide_eq_true h) h
  · rw [decide_eq_false h]; exact hf (decide_eq_false h) h
end
theorem asm {p : Prop} (h : p) : p := h
/-- A side condition, by its kind: in reach; within bounds; what lies there. -/
def Rg (p : Prop) : Prop := p
theorem Rg.mk {p : Prop} (h : p) : Rg p := h
def Lt (a b : Nat) : Prop := a < b
theorem Lt.mk {a b : Nat} (h : a < b) : Lt a b := h
def Get (c : List Value) (i : Nat) (v : Value) : Prop := c[i]? = some v
theorem Get.mk {c : List Value} {i : Nat} {v : Value} (h : c[i]? = some v) : Get c i v := h
def GetA (c : List Value) (i n : Nat) (l : List Value) : Prop := i + n ≤ c.length ∧ (c.drop i).take n = l
theorem GetA.mk {c : List Value} {i n : Nat} {l : List Value} (h1 : i + n ≤ c.length) (h2 : (c.drop i).take n = l) : GetA c i n l := ⟨h1, h2⟩
def IK (off es : Nat) (i : Int) (F : Nat → Prop) : Prop := F (off + i.toNat * es)
theorem ik01 {i : Int} {F : Nat → Prop} (h : F i.toNat) : IK 0 1 i F := by unfold IK; rw [Nat.zero_add, Nat.mul_one]; exact h
theorem ik0 {es : Nat} {i : Int} {F : Nat → Prop} (h : F (i.toNat * es)) : IK 0 es i F := by unfold IK; rw [Nat.zero_add]; exact h
theorem ikG {off es : Nat} {i : Int} {F : Nat → Prop} (h : F (off + i.toNat * es)) : IK off es i F := h
def PK (tm : Env) (x : Operand) (K : Value → AHeap → Prop) (s : AHeap) : Prop := K (ev tm x) s
theorem pk {tm : Env} {x : Operand} {K : Value → AHeap → Prop} {s : AHeap} {v : Value} (hx : Ev tm x v) (h : K v s) : PK tm x K s := by unfold PK; rw [hx.eq]; exact h

/-! what kind of goal it is -/
namespace K
section
variable {P : Program} {ops : Array Oper} {C : List (List Nat)} {W : List (Nat × List Nat)} {tm : Env} {s : AHeap} {K : Value → AHeap → Prop} {KK : Env → AHeap → Prop} {i n : Nat} {d : Option Tmp} {t xt ty : TypeId} {p : String} {af : Array Edge} {gd : Option (Nat × Bool)} {x y : Operand} {v : Value}
theorem ev (h : Ev tm x v) : Ev tm x v := h
theorem aop {o : Oper} (h : AOp P o tm s K) : AOp P o tm s K := h
theorem aops {l : List Oper} (h : AOps P ops l tm s KK) : AOps P ops l tm s KK := h
theorem aopsD {l : List Oper} (h : AOpsD P ops C W i l tm s KK) : AOpsD P ops C W i l tm s KK := h
theorem awp {c : Code} {Q : AExit → Env → AHeap → Prop} (h : AWp P n c Q tm s) : AWp P n c Q tm s := h
theorem at_ {b : ABlk} (h : At s i b) : At s i b := h
theorem gk {b w : Bool} {p q : Prop} (h : GK b w p q) : GK b w p q := h
theorem load (h : AOp P ⟨d, .load xt x, t, p, af, gd⟩ tm s K) : AOp P ⟨d, .load xt x, t, p, af, gd⟩ tm s K := h
theorem store (h : AOp P ⟨d, .store xt x y, t, p, af, gd⟩ tm s K) : AOp P ⟨d, .store xt x y, t, p, af, gd⟩ tm s K := h
theorem bin {op : BinOp} (h : AOp P ⟨d, .binOp op xt x y ty, t, p, af, gd⟩ tm s K) : AOp P ⟨d, .binOp op xt x y ty, t, p, af, gd⟩ tm s K := h
theorem call {c : Call} (h : AOp P ⟨d, .call c, t, p, af, gd⟩ tm s K) : AOp P ⟨d, .call c, t, p, af, gd⟩ tm s K := h
theorem acall {f : FuncId} {l : List Value} {s' : AHeap} (h : ACall P f l s v s') : ACall P f l s v s' := h
theorem box (h : AOp P ⟨d, .box xt x, t, p, af, gd⟩ tm s K) : AOp P ⟨d, .box xt x, t, p, af, gd⟩ tm s K := h
theorem alloc (h : AOp P ⟨d, .alloc xt, t, p, af, gd⟩ tm s K) : AOp P ⟨d, .alloc xt, t, p, af, gd⟩ tm s K := h
end
end K

namespace D
section
variable {P : Program} {ops : Array Oper} {C : List (List Nat)} {W : List (Nat × List Nat)} {tm : Env} {s : AHeap} {K : Env → AHeap → Prop} {i : Nat} {o : Op} {r : List Oper} {d : Option Tmp} {t : TypeId} {p : String} {af : Array Edge}
theorem nil (h : K tm s) : AOpsD P ops C W i [] tm s K := h
theorem q {v : Value} (h : ∀ t', AgreeOff (others C W i) t' s → AOp P ⟨d, o, t, p, af, none⟩ tm t' fun v' t'' => v' = v ∧ t'' = t') (hr : AOpsD P ops C W (i + 1) r (put tm d v) s K) : AOpsD P ops C W i (⟨d, o, t, p, af, none⟩ :: r) tm s K :=
  AOpsD.quiet v trivial h hr
theorem w1 {v : Value} {id : Nat} {b : ABlk} (hd : id ∈ own W i) (h : ∀ t', AgreeOff (others C W i) t' s → AOp P ⟨d, o, t, p, af, none⟩ tm t' fun v' t'' => v' = v ∧ t'' = t'.set id b) (hr : AOpsD P ops C W (i + 1) r (put tm d v) (s.set id b) K) : AOpsD P ops C W i (⟨d, o, t, p, af, none⟩ :: r) tm s K :=
  AOpsD.write v [(id, b)] trivial (by simpa using hd) h hr
theorem w2 {v : Value} {id id' : Nat} {b b' : ABlk} (hd : id ∈ own W i ∧ id' ∈ own W i) (h : ∀ t', AgreeOff (others C W i) t' s → AOp P ⟨d, o, t, p, af, none⟩ tm t' fun v' t'' => v' = v ∧ t'' = (t'.set id b).set id' b') (hr : AOpsD P ops C W (i + 1) r (put tm d v) ((s.set id b).set id' b') K) : AOpsD P ops C W i (⟨d, o, t, p, af, none⟩ :: r) tm s K :=
  AOpsD.write v [(id, b), (id', b')] trivial (by simpa using hd) h hr
theorem q0 {v : Value} (hw : own W i = []) (h : ∀ t', AgreeOff (others C W i) t' s → AOp P ⟨d, o, t, p, af, none⟩ tm t' fun v' t'' => v' = v ∧ t'' = t') (hr : AOpsD P ops C W (i + 1) r (put tm d v) s K) : AOpsD P ops C W i (⟨d, o, t, p, af, none⟩ :: r) tm s K :=
  q h hr
theorem w1n {v : Value} {id : Nat} {b : ABlk} (hw : own W i = [id]) (h : ∀ t', AgreeOff (others C W i) t' s → AOp P ⟨d, o, t, p, af, none⟩ tm t' fun v' t'' => v' = v ∧ t'' = t'.set id b) (hr : AOpsD P ops C W (i + 1) r (put tm d v) (s.set id b) K) : AOpsD P ops C W i (⟨d, o, t, p, af, none⟩ :: r) tm s K :=
  w1 (by rw [hw]; exact List.mem_singleton.2 rfl) h hr
theorem w2n {v : Value} {id id' : Nat} {b b' : ABlk} (hw : own W i = [id, id']) (h : ∀ t', AgreeOff (others C W i) t' s → AOp P ⟨d, o, t, p, af, none⟩ tm t' fun v' t'' => v' = v ∧ t'' = (t'.set id b).set id' b') (hr : AOpsD P ops C W (i + 1) r (put tm d v) ((s.set id b).set id' b') K) : AOpsD P ops C W i (⟨d, o, t, p, af, none⟩ :: r) tm s K :=
  w2 (by rw [hw]; simp) h hr
theorem yes {j : Nat} {want : Bool} {e : Tmp} (hd : (ops[j]?).bind (·.dst) = some e) (hb : Ev tm (.tmp e) (.bool want)) (h : AOpsD P ops C W i (⟨d, o, t, p, af, none⟩ :: r) tm s K) : AOpsD P ops C W i (⟨d, o, t, p, af, some (j, want)⟩ :: r) tm s K := by
  have hy : yl ops tm j = some want := by unfold yl; rw [hd]; have := hb.eq; simp only [ev] at this; simp only [this]
  simp only [AOpsD] at h ⊢
  rcases h with ⟨_, h⟩ | ⟨h, _⟩
  · exact .inl ⟨hy, h⟩
  · exact h.elim
theorem no {j : Nat} {want b : Bool} {e : Tmp} (hd : (ops[j]?).bind (·.dst) = some e) (hb : Ev tm (.tmp e) (.bool b)) (hne : b ≠ want) (h : AOpsD P ops C W (i + 1) r (put tm d undef) s K) : AOpsD P ops C W i (⟨d, o, t, p, af, some (j, want)⟩ :: r) tm s K := by
  have hy : yl ops tm j = some b := by unfold yl; rw [hd]; have := hb.eq; simp only [ev] at this; simp only [this]
  exact .inr ⟨by show yl ops tm j ≠ some want; rw [hy]; simpa using hne, h⟩
theorem yesB {j : Nat} {want b : Bool} {e : Tmp} (hd : (ops[j]?).bind (·.dst) = some e) (hb : Ev tm (.tmp e) (.bool b)) (hw : b = want) (h : AOpsD P ops C W i (⟨d, o, t, p, af, none⟩ :: r) tm s K) : AOpsD P ops C W i (⟨d, o, t, p, af, some (j, want)⟩ :: r) tm s K := by
  subst hw; exact yes hd hb h
theorem noT {j : Nat} {b : Bool} {e : Tmp} (hd : (ops[j]?).bind (·.dst) = some e) (hb : Ev tm (.tmp e) (.bool b)) (hw : b = false) (h : AOpsD P ops C W (i + 1) r (put tm d undef) s K) : AOpsD P ops C W i (⟨d, o, t, p, af, some (j, true)⟩ :: r) tm s K := no hd hb (by simp [hw]) h
theorem noF {j : Nat} {b : Bool} {e : Tmp} (hd : (ops[j]?).bind (·.dst) = some e) (hb : Ev tm (.tmp e) (.bool b)) (hw : b = true) (h : AOpsD P ops C W (i + 1) r (put tm d undef) s K) : AOpsD P ops C W i (⟨d, o, t, p, af, some (j, false)⟩ :: r) tm s K := no hd hb (by simp [hw]) h
theorem noTF {j : Nat} {e : Tmp} (hd : (ops[j]?).bind (·.dst) = some e) (hb : Ev tm (.tmp e) (.bool false)) (h : AOpsD P ops C W (i + 1) r (put tm d undef) s K) : AOpsD P ops C W i (⟨d, o, t, p, af, some (j, true)⟩ :: r) tm s K := no hd hb (by simp) h
theorem noFT {j : Nat} {e : Tmp} (hd : (ops[j]?).bind (·.dst) = some e) (hb : Ev tm (.tmp e) (.bool true)) (h : AOpsD P ops C W (i + 1) r (put tm d undef) s K) : AOpsD P ops C W i (⟨d, o, t, p, af, some (j, false)⟩ :: r) tm s K := no hd hb (by simp) h
theorem guardD {j : Nat} {want : Bool} {φ : Prop} {inst : Decidable φ} {e : Tmp} (hd : (ops[j]?).bind (·.dst) = some e) (hb : Ev tm (.tmp e) (.bool (decide φ)))
    (ht : decide φ = true → φ → AOpsD P ops C W i (⟨d, o, t, p, af, some (j, want)⟩ :: r) tm s K) (hf : decide φ = false → ¬ φ → AOpsD P ops C W i (⟨d, o, t, p, af, some (j, want)⟩ :: r) tm s K) : AOpsD P ops C W i (⟨d, o, t, p, af, some (j, want)⟩ :: r) tm s K := by
  by_cases h : φ
  · exact ht (decide_eq_true h) h
  · exact hf (decide_eq_false h) h
theorem guardG {j : Nat} {want b : Bool} {e : Tmp} (hd : (ops[j]?).bind (·.dst) = some e) (hb : Ev tm (.tmp e) (.bool b))
    (h : GK b want (AOpsD P ops C W i (⟨d, o, t, p, af, none⟩ :: r) tm s K) (AOpsD P ops C W (i + 1) r (put tm d undef) s K)) : AOpsD P ops C W i (⟨d, o, t, p, af, some (j, want)⟩ :: r) tm s K := by
  by_cases e : b = want
  · exact yesB hd hb e (h.1 e)
  · exact no hd hb e (h.2 (by cases b <;> cases want <;> simp_all))
end
end D

namespace S
section
variable {P : Program} {ops : Array Oper} {r : List Oper} {tm : Env} {s : AHeap} {K : Env → AHeap → Prop} {d : Option Tmp} {t : TypeId} {p : String} {af : Array Edge}

theorem nil (h : K tm s) : AOps P ops [] tm s K := h
theorem op {o : Op} (h : AOp P ⟨d, o, t, p, af, none⟩ tm s fun v s' => AOps P ops r (put tm d v) s' K) : AOps P ops (⟨d, o, t, p, af, none⟩ :: r) tm s K := h
theorem guard {op : Op} {j : Nat} {want : Bool} {b : Bool} {e : Tmp} (hd : (ops[j]?).bind (·.dst) = some e) (hb : Ev tm (.tmp e) (.bool b))
    (ht : b = want → AOps P ops (⟨d, op, t, p, af, none⟩ :: r) tm s K) (hf : b = !want → AOps P ops r (put tm d undef) s K) : AOps P ops (⟨d, op, t, p, af, some (j, want)⟩ :: r) tm s K := by
  have hy : yl ops tm j = some b := by unfold yl; rw [hd]; have := hb.eq; simp only [ev] at this; simp only [this]
  simp only [AOps, hy]
  by_cases h : b = want
  · rw [if_pos (by rw [h])]; exact ht h
  · rw [if_neg (by simpa using h)]; exact hf (by cases b <;> cases want <;> simp_all)
theorem guardTT {op : Op} {j : Nat} {e : Tmp} (hd : (ops[j]?).bind (·.dst) = some e) (hb : Ev tm (.tmp e) (.bool true)) (h : AOps P ops (⟨d, op, t, p, af, none⟩ :: r) tm s K) : AOps P ops (⟨d, op, t, p, af, some (j, true)⟩ :: r) tm s K :=
  guard hd hb (fun _ => h) (fun e => by cases e)
theorem guardFF {op : Op} {j : Nat} {e : Tmp} (hd : (ops[j]?).bind (·.dst) = some e) (hb : Ev tm (.tmp e) (.bool false)) (h : AOps P ops (⟨d, op, t, p, af, none⟩ :: r) tm s K) : AOps P ops (⟨d, op, t, p, af, some (j, false)⟩ :: r) tm s K :=
  guard hd hb (fun _ => h) (fun e => by cases e)
theorem guardTF {op : Op} {j : Nat} {e : Tmp} (hd : (ops[j]?).bind (·.dst) = some e) (hb : Ev tm (.tmp e) (.bool false)) (h : AOps P ops r (put tm d undef) s K) : AOps P ops (⟨d, op, t, p, af, some (j, true)⟩ :: r) tm s K :=
  guard hd hb (fun e => by cases e) (fun _ => h)
theorem guardFT {op : Op} {j : Nat} {e : Tmp} (hd : (ops[j]?).bind (·.dst) = some e) (hb : Ev tm (.tmp e) (.bool true)) (h : AOps P ops r (put tm d undef) s K) : AOps P ops (⟨d, op, t, p, af, some (j, false)⟩ :: r) tm s K :=
  guard hd hb (fun e => by cases e) (fun _ => h)
/-- A guard that is known by a hypothesis. -/
theorem guardY {op : Op} {j : Nat} {want b : Bool} {e : Tmp} (hd : (ops[j]?).bind (·.dst) = some e) (hb : Ev tm (.tmp e) (.bool b)) (hw : b = want) (h : AOps P ops (⟨d, op, t, p, af, none⟩ :: r) tm s K) : AOps P ops (⟨d, op, t, p, af, some (j, want)⟩ :: r) tm s K :=
  guard hd hb (fun _ => h) (fun e => by subst hw; cases b <;> cases e)
theorem guardNT {op : Op} {j : Nat} {b : Bool} {e : Tmp} (hd : (ops[j]?).bind (·.dst) = some e) (hb : Ev tm (.tmp e) (.bool b)) (hw : b = false) (h : AOps P ops r (put tm d undef) s K) : AOps P ops (⟨d, op, t, p, af, some (j, true)⟩ :: r) tm s K :=
  guard hd hb (fun e => by subst hw; cases e) (fun _ => h)
theorem guardNF {op : Op} {j : Nat} {b : Bool} {e : Tmp} (hd : (ops[j]?).bind (·.dst) = some e) (hb : Ev tm (.tmp e) (.bool b)) (hw : b = true) (h : AOps P ops r (put tm d undef) s K) : AOps P ops (⟨d, op, t, p, af, some (j, false)⟩ :: r) tm s K :=
  guard hd hb (fun e => by subst hw; cases e) (fun _ => h)
/-- A guard that is not known: both ways. -/
theorem guardD {op : Op} {j : Nat} {want : Bool} {φ : Prop} {inst : Decidable φ} {e : Tmp} (hd : (ops[j]?).bind (·.dst) = some e) (hb : Ev tm (.tmp e) (.bool (decide φ)))
    (ht : decide φ = true → φ → AOps P ops (⟨d, op, t, p, af, some (j, want)⟩ :: r) tm s K) (hf : decide φ = false → ¬ φ → AOps P ops (⟨d, op, t, p, af, some (j, want)⟩ :: r) tm s K) : AOps P ops (⟨d, op, t, p, af, some (j, want)⟩ :: r) tm s K := by
  by_cases h : φ
  · exact ht (decide_eq_true h) h
  · exact hf (decide_eq_false h) h
theorem guardB {op : Op} {j : Nat} {want b : Bool} {e : Tmp} (hd : (ops[j]?).bind (·.dst) = some e) (hb : Ev tm (.tmp e) (.bool b))
    (ht : b = true → AOps P ops (⟨d, op, t, p, af, some (j, want)⟩ :: r) tm s K) (hf : b = false → AOps P ops (⟨d, op, t, p, af, some (j, want)⟩ :: r) tm s K) : AOps P ops (⟨d, op, t, p, af, some (j, want)⟩ :: r) tm s K := by
  cases h : b
  · exact hf h
  · exact ht h
theorem guardG {op : Op} {j : Nat} {want b : Bool} {e : Tmp} (hd : (ops[j]?).bind (·.dst) = some e) (hb : Ev tm (.tmp e) (.bool b))
    (h : GK b want (AOps P ops (⟨d, op, t, p, af, none⟩ :: r) tm s K) (AOps P ops r (put tm d undef) s K)) : AOps P ops (⟨d, op, t, p, af, some (j, want)⟩ :: r) tm s K :=
  guard hd hb h.1 h.2
end
end S

namespace O
section
variable {P : Program} {tm : Env} {s : AHeap} {K : Value → AHeap → Prop} {d : Option Tmp} {t : TypeId} {p : String} {af : Array Edge} {gd : Option (Nat × Bool)}

theorem move {x : Operand} {v : Value} (hx : Ev tm x v) (h : K v s) : AOp P ⟨d, .move x, t, p, af, gd⟩ tm s K := by
  rw [← hx.eq] at h; exact h
theorem assign {x : Operand} {v : Value} (hx : Ev tm x v) (h : K v s) : AOp P ⟨d, .assign x, t, p, af, gd⟩ tm s K := by
  rw [← hx.eq] at h; exact h
theorem pick {c x y : Operand} {b : Bool} {vx vy : Value} (hc : Ev tm c (.bool b)) (hx : Ev tm x vx) (hy : Ev tm y vy) (h : K (if b = true then vx else vy) s) : AOp P ⟨d, .pick c x y, t, p, af, gd⟩ tm s K := by
  refine ⟨b, hc.eq, ?_⟩
  rw [hx.eq, hy.eq]; exact h
theorem pickT {c x y : Operand} {b : Bool} {vx : Value} (hc : Ev tm c (.bool b)) (hb : b = true) (hx : Ev tm x vx) (h : K vx s) : AOp P ⟨d, .pick c x y, t, p, af, gd⟩ tm s K := by
  subst hb
  refine ⟨true, hc.eq, ?_⟩
  rw [if_pos rfl, hx.eq]; exact h
theorem pickF {c x y : Operand} {b : Bool} {vy : Value} (hc : Ev tm c (.bool b)) (hb : b = false) (hy : Ev tm y vy) (h : K vy s) : AOp P ⟨d, .pick c x y, t, p, af, gd⟩ tm s K := by
  subst hb
  refine ⟨false, hc.eq, ?_⟩
  rw [if_neg (by simp), hy.eq]; exact h
theorem bin {op : BinOp} {x y : Operand} {ty : TypeId} {xt : TypeId} {vx vy v : Value} (hx : Ev tm x vx) (hy : Ev tm y vy) (hv : ABin P op xt x y vx vy v) (h : K v s) :
    AOp P ⟨d, .binOp op xt x y ty, t, p, af, gd⟩ tm s K := ⟨v, by rw [hx.eq, hy.eq]; exact hv, h⟩
theorem int {op : BinOp} {x y : Operand} {ty : TypeId} {xt : TypeId} {k k' : IntKind} {a b : Int} {v : Value} (hx : Ev tm x (.int k a)) (hy : Ev tm y (.int k' b)) (hv : aint op k a k' b = some v) (h : K v s) :
    AOp P ⟨d, .binOp op xt x y ty, t, p, af, gd⟩ tm s K := bin hx hy (.inl hv) h
theorem add {x y : Operand} {ty : TypeId} {xt : TypeId} {a b : Int} (hx : Ev tm x (.int .i64 a)) (hy : Ev tm y (.int .i64 b)) (hr : -9223372036854775808 ≤ a + b ∧ a + b ≤ 9223372036854775807) (h : K (.int .i64 (a + b)) s) :
    AOp P ⟨d, .binOp .add xt x y ty, t, p, af, gd⟩ tm s K := int hx hy (by simp only [aint, if_true, IntWalk.i64_in _ hr]) h
theorem sub {x y : Operand} {ty : TypeId} {xt : TypeId} {a b : Int} (hx : Ev tm x (.int .i64 a)) (hy : Ev tm y (.int .i64 b)) (hr : -9223372036854775808 ≤ a - b ∧ a - b ≤ 9223372036854775807) (h : K (.int .i64 (a - b)) s) :
    AOp P ⟨d, .binOp .sub xt x y ty, t, p, af, gd⟩ tm s K := int hx hy (by simp only [aint, if_true, IntWalk.i64_in _ hr]) h
theorem mul {x y : Operand} {ty : TypeId} {xt : TypeId} {a b : Int} (hx : Ev tm x (.int .i64 a)) (hy : Ev tm y (.int .i64 b)) (hr : -9223372036854775808 ≤ a * b ∧ a * b ≤ 9223372036854775807) (h : K (.int .i64 (a * b)) s) :
    AOp P ⟨d, .binOp .mul xt x y ty, t, p, af, gd⟩ tm s K := int hx hy (by simp only [aint, if_true, IntWalk.i64_in _ hr]) h
theorem not {x : Operand} {xt : TypeId} {b : Bool} (hx : Ev tm x (.bool b)) (h : K (.bool (!b)) s) : AOp P ⟨d, .unOp .not xt x, t, p, af, gd⟩ tm s K :=
  ⟨_, by rw [hx.eq]; rfl, h⟩
theorem ptrEq {x y : Operand} {ty xt e : TypeId} {sz by_ : Nat} {z : Value} [h1 : HasTD P xt ⟨.ptr e, sz, by_, z⟩] {a : Option Addr} (hx : Ev tm x (.pointer a)) (hy : Ev tm y (.pointer none)) (h : K (.bool a.isNone) s) :
    AOp P ⟨d, .binOp .eql xt x y ty, t, p, af, gd⟩ tm s K := bin hx hy (.inl (by simp only [abin, h1.is])) h
theorem ptrNe {x y : Operand} {ty xt e : TypeId} {sz by_ : Nat} {z : Value} [h1 : HasTD P xt ⟨.ptr e, sz, by_, z⟩] {a : Option Addr} (hx : Ev tm x (.pointer a)) (hy : Ev tm y (.pointer none)) (h : K (.bool a.isSome) s) :
    AOp P ⟨d, .binOp .neq xt x y ty, t, p, af, gd⟩ tm s K := bin hx hy (.inl (by simp only [abin, h1.is])) h
theorem ptrEqS {x y : Operand} {ty xt e : TypeId} {sz by_ : Nat} {z : Value} [h1 : HasTD P xt ⟨.ptr e, sz, by_, z⟩] {a : Addr} (hx : Ev tm x (.pointer (some a))) (hy : Ev tm y (.pointer none)) (h : K (.bool false) s) :
    AOp P ⟨d, .binOp .eql xt x y ty, t, p, af, gd⟩ tm s K := ptrEq hx hy h
theorem ptrNeS {x y : Operand} {ty xt e : TypeId} {sz by_ : Nat} {z : Value} [h1 : HasTD P xt ⟨.ptr e, sz, by_, z⟩] {a : Addr} (hx : Ev tm x (.pointer (some a))) (hy : Ev tm y (.pointer none)) (h : K (.bool true) s) :
    AOp P ⟨d, .binOp .neq xt x y ty, t, p, af, gd⟩ tm s K := ptrNe hx hy h
theorem ptrEqN {x y : Operand} {ty xt e : TypeId} {sz by_ : Nat} {z : Value} [h1 : HasTD P xt ⟨.ptr e, sz, by_, z⟩] (hx : Ev tm x (.pointer none)) (hy : Ev tm y (.pointer none)) (h : K (.bool true) s) :
    AOp P ⟨d, .binOp .eql xt x y ty, t, p, af, gd⟩ tm s K := ptrEq hx hy h
theorem ptrNeN {x y : Operand} {ty xt e : TypeId} {sz by_ : Nat} {z : Value} [h1 : HasTD P xt ⟨.ptr e, sz, by_, z⟩] (hx : Ev tm x (.pointer none)) (hy : Ev tm y (.pointer none)) (h : K (.bool false) s) :
    AOp P ⟨d, .binOp .neq xt x y ty, t, p, af, gd⟩ tm s K := ptrNe hx hy h
theorem slcEq {x y : Operand} {ty xt e : TypeId} {sz by_ : Nat} {z : Value} [h1 : HasTD P xt ⟨.slice e, sz, by_, z⟩] {a : Option Addr} {n c : Nat} (hx : Ev tm x (.slice a n c)) (hy : Ev tm y (.slice none 0 0)) (h : K (.bool a.isNone) s) :
    AOp P ⟨d, .binOp .eql xt x y ty, t, p, af, gd⟩ tm s K := bin hx hy (.inl (by simp only [abin, h1.is])) h
theorem slcNe {x y : Operand} {ty xt e : TypeId} {sz by_ : Nat} {z : Value} [h1 : HasTD P xt ⟨.slice e, sz, by_, z⟩] {a : Option Addr} {n c : Nat} (hx : Ev tm x (.slice a n c)) (hy : Ev tm y (.slice none 0 0)) (h : K (.bool a.isSome) s) :
    AOp P ⟨d, .binOp .neq xt x y ty, t, p, af, gd⟩ tm s K := bin hx hy (.inl (by simp only [abin, h1.is])) h
theorem boolEq {x y : Operand} {ty xt : TypeId} {sz by_ : Nat} {z : Value} [h1 : HasTD P xt ⟨.bool, sz, by_, z⟩] {a b : Bool} (hx : Ev tm x (.bool a)) (hy : Ev tm y (.bool b)) (h : K (.bool (a == b)) s) :
    AOp P ⟨d, .binOp .eql xt x y ty, t, p, af, gd⟩ tm s K := bin hx hy (.inl (by simp only [abin, h1.is])) h
theorem boolNe {x y : Operand} {ty xt : TypeId} {sz by_ : Nat} {z : Value} [h1 : HasTD P xt ⟨.bool, sz, by_, z⟩] {a b : Bool} (hx : Ev tm x (.bool a)) (hy : Ev tm y (.bool b)) (h : K (.bool (!(a == b))) s) :
    AOp P ⟨d, .binOp .neq xt x y ty, t, p, af, gd⟩ tm s K := bin hx hy (.inl (by simp only [abin, h1.is])) h
theorem strEq {x y : Operand} {ty xt : TypeId} {a b : ByteArray} (hx : Ev tm x (.string a)) (hy : Ev tm y (.string b)) (h : K (.bool (decide (a.data.toList = b.data.toList))) s) :
    AOp P ⟨d, .binOp .eql xt x y ty, t, p, af, gd⟩ tm s K := bin hx hy (.inl rfl) h
theorem strNe {x y : Operand} {ty xt : TypeId} {a b : ByteArray} (hx : Ev tm x (.string a)) (hy : Ev tm y (.string b)) (h : K (.bool (!decide (a.data.toList = b.data.toList))) s) :
    AOp P ⟨d, .binOp .neq xt x y ty, t, p, af, gd⟩ tm s K := bin hx hy (.inl rfl) h
theorem pickS {c x y : Operand} {b : Bool} {v : Value} (hc : Ev tm c (.bool b)) (hx : Ev tm x v) (hy : Ev tm y v) (h : K v s) : AOp P ⟨d, .pick c x y, t, p, af, gd⟩ tm s K :=
  pick hc hx hy (by cases b <;> exact h)
theorem un {op : UnOp} {x : Operand} {xt : TypeId} {v v' : Value} (hx : Ev tm x v) (hv : aun op v = some v') (h : K v' s) : AOp P ⟨d, .unOp op xt x, t, p, af, gd⟩ tm s K :=
  ⟨_, by rw [hx.eq]; exact hv, h⟩
theorem conv {x : Operand} {src dst : TypeId} {v v' : Value} (hx : Ev tm x v) (hv : aconv P src dst s v = some v') (h : K v' s) : AOp P ⟨d, .convert src dst x, t, p, af, gd⟩ tm s K :=
  .inl ⟨_, by rw [hx.eq]; exact hv, h⟩
/-- The mark of a constant's bytes: from then on they are only read. -/
theorem markK {x : Operand} {xt e : TypeId} {sz by_ : Nat} {z : Value} {es eb : Nat} {ez : Value} {id off n c sz' : Nat} {sp : Option Nat} {cs : List Value} [h1 : HasTD P xt ⟨.slice e, sz, by_, z⟩] [h2 : HasTD P e ⟨.int .u8, es, eb, ez⟩] (hx : Ev tm x (.slice (some ⟨id, off, sp⟩) n c)) (hs : At s id (.cells true sz' cs)) (hn : n ≠ 0)
    (h : K (.slice (some ⟨id, off, sp⟩) n c) (s.set id (.cells false sz' cs))) : AOp P ⟨d, .convert xt xt x, t, p, af, gd⟩ tm s K :=
  .inr ⟨_, by rw [hx.eq]; unfold At at hs; simp only [amark, h1.is, h2.is, hs]; rw [if_pos ⟨trivial, hn⟩], by rw [hx.eq]; exact h⟩
theorem convInt {x : Operand} {src dst : TypeId} {k k0 k1 : IntKind} {sz by_ : Nat} {z : Value} {sz' by' : Nat} {z' : Value} {a : Int} [h1 : HasTD P src ⟨.int k0, sz, by_, z⟩] [h2 : HasTD P dst ⟨.int k1, sz', by', z'⟩] (hx : Ev tm x (.int k a))
    (h : K (.int k1 (k1.wrap a)) s) : AOp P ⟨d, .convert src dst x, t, p, af, gd⟩ tm s K :=
  .inl ⟨_, by rw [hx.eq]; simp only [aconv, h1.is, h2.is], h⟩
theorem extract {x : Operand} {i : Nat} {l : List Value} {v : Value} (hx : Ev tm x (.tuple l.toArray)) (hv : l[i]? = some v) (h : K v s) : AOp P ⟨d, .extract x i, t, p, af, gd⟩ tm s K :=
  ⟨v, by rw [hx.eq]; exact hv, h⟩
theorem nilCheck {x : Operand} {a : Addr} (hx : Ev tm x (.pointer (some a))) (h : K (.pointer (some a)) s) : AOp P ⟨d, .nilCheck x, t, p, af, gd⟩ tm s K := by
  simp only [AOp, hx.eq]; exact h
theorem nilCheckF {x : Operand} {f : FuncId} {fs cs : Array Value} (hx : Ev tm x (.func (.func f) fs cs)) (h : K (.func (.func f) fs cs) s) : AOp P ⟨d, .nilCheck x, t, p, af, gd⟩ tm s K := by
  simp only [AOp, hx.eq]; exact h
theorem fieldAddr {x : Operand} {xt : TypeId} {f id off : Nat} {fs : List (Nat × TypeId)} {sz by_ : Nat} {z : Value} [h1 : HasTD P xt ⟨.struct fs, sz, by_, z⟩] {o : Nat} {ft : TypeId} {tf : TD} (hx : Ev tm x (.pointer (some ⟨id, off, none⟩)))
    (hf : fs[f]? = some (o, ft)) (h2 : HasTD P ft tf) (hz : tf.size ≠ 0) (h : K (.pointer (some ⟨id, off + o, none⟩)) s) : AOp P ⟨d, .fieldAddr xt x f, t, p, af, gd⟩ tm s K :=
  ⟨_, by rw [hx.eq]; simp only [afield, h1.is, hf, h2.is, if_pos hz], h⟩
theorem load {x : Operand} {xt : TypeId} {td : TD} [h1 : HasTD P xt td] {id off sz : Nat} {rw : Bool} {c : List Value} {v : Value} (hx : Ev tm x (.pointer (some ⟨id, off, none⟩))) (hs : At s id (.cells rw sz c)) (ha : td.agg = false)
    (hv : c[off]? = some v) (h : K v s) : AOp P ⟨d, .load xt x, t, p, af, gd⟩ tm s K :=
  ⟨v, by rw [hx.eq]; unfold At at hs; simp [aload, h1.is, hs, ha, hv], h⟩
theorem loadAgg {x : Operand} {xt : TypeId} {td : TD} [h1 : HasTD P xt td] {id off sz : Nat} {rw : Bool} {c l : List Value} (hx : Ev tm x (.pointer (some ⟨id, off, none⟩))) (hs : At s id (.cells rw sz c)) (ha : td.agg = true)
    (hn : off + td.size ≤ c.length) (hl : (c.drop off).take td.size = l) (h : K (.agg l.toArray) s) : AOp P ⟨d, .load xt x, t, p, af, gd⟩ tm s K :=
  ⟨.agg l.toArray, by rw [hx.eq]; unfold At at hs; simp [aload, h1.is, hs, ha, hn, hl], h⟩
theorem store {x y : Operand} {xt : TypeId} {td : TD} [h1 : HasTD P xt td] {id off sz : Nat} {c : List Value} {v : Value} (hx : Ev tm x (.pointer (some ⟨id, off, none⟩))) (hy : Ev tm y v) (hs : At s id (.cells true sz c)) (hv : v.cells = #[v]) (hz : td.size = 1)
    (hn : notTup v = true) (ho : off < c.length) (h : K undef (s.set id (.cells true sz (c.set off v)))) : AOp P ⟨d, .store xt x y, t, p, af, gd⟩ tm s K :=
  ⟨_, by rw [hx.eq, hy.eq]; unfold At at hs; simp only [astore, h1.is, hs]; rw [if_pos ⟨by rw [hv, hz]; rfl, by rw [hz]; omega, hn⟩], by rw [hv]; exact h⟩
theorem storeAgg {x y : Operand} {xt : TypeId} {td : TD} [h1 : HasTD P xt td] {id off sz : Nat} {c l : List Value} (hx : Ev tm x (.pointer (some ⟨id, off, none⟩))) (hy : Ev tm y (.agg l.toArray)) (hs : At s id (.cells true sz c)) (hz : l.length = td.size)
    (ho : off + td.size ≤ c.length) (h : K undef (s.set id (.cells true sz (splice c off l)))) : AOp P ⟨d, .store xt x y, t, p, af, gd⟩ tm s K :=
  ⟨_, by rw [hx.eq, hy.eq]; unfold At at hs; simp only [astore, h1.is, hs]; rw [if_pos ⟨by simpa [Value.cells] using hz, ho, rfl⟩]; rfl, h⟩
theorem index {x y : Operand} {xt e : TypeId} {sz by_ : Nat} {z : Value} {ke : TK} {es eb : Nat} {ez : Value} [h1 : HasTD P xt ⟨.slice e, sz, by_, z⟩] [h2 : HasTD P e ⟨ke, es, eb, ez⟩] {id off : Nat} {sp : Option Nat} {n c : Nat} {k : IntKind} {i : Int} (hx : Ev tm x (.slice (some ⟨id, off, sp⟩) n c)) (hy : Ev tm y (.int k i)) (hi : 0 ≤ i ∧ i < n)
    (h : K (.pointer (some ⟨id, off + i.toNat * es, none⟩)) s) : AOp P ⟨d, .indexAddr xt x y, t, p, af, gd⟩ tm s K :=
  ⟨_, by rw [hx.eq, hy.eq]; simp only [aindexAddr, h1.is, h2.is, if_pos hi], h⟩
theorem index01 {x y : Operand} {xt e : TypeId} {sz by_ : Nat} {z : Value} {ke : TK} {eb : Nat} {ez : Value} [h1 : HasTD P xt ⟨.slice e, sz, by_, z⟩] [h2 : HasTD P e ⟨ke, 1, eb, ez⟩] {id : Nat} {sp : Option Nat} {n c : Nat} {k : IntKind} {i : Int} (hx : Ev tm x (.slice (some ⟨id, 0, sp⟩) n c)) (hy : Ev tm y (.int k i)) (hi : 0 ≤ i ∧ i < n)
    (h : K (.pointer (some ⟨id, i.toNat, none⟩)) s) : AOp P ⟨d, .indexAddr xt x y, t, p, af, gd⟩ tm s K :=
  index hx hy hi (by rw [Nat.zero_add, Nat.mul_one]; exact h)
theorem index0 {x y : Operand} {xt e : TypeId} {sz by_ : Nat} {z : Value} {ke : TK} {es eb : Nat} {ez : Value} [h1 : HasTD P xt ⟨.slice e, sz, by_, z⟩] [h2 : HasTD P e ⟨ke, es, eb, ez⟩] {id : Nat} {sp : Option Nat} {n c : Nat} {k : IntKind} {i : Int} (hx : Ev tm x (.slice (some ⟨id, 0, sp⟩) n c)) (hy : Ev tm y (.int k i)) (hi : 0 ≤ i ∧ i < n)
    (h : K (.pointer (some ⟨id, i.toNat * es, none⟩)) s) : AOp P ⟨d, .indexAddr xt x y, t, p, af, gd⟩ tm s K :=
  index hx hy hi (by rw [Nat.zero_add]; exact h)
theorem indexArr {x y : Operand} {xt e : TypeId} {m : Nat} {sz by_ : Nat} {z : Value} {ke : TK} {es eb : Nat} {ez : Value} [h1 : HasTD P xt ⟨.array m e, sz, by_, z⟩] [h2 : HasTD P e ⟨ke, es, eb, ez⟩] {id off : Nat} {k : IntKind} {i : Int} (hx : Ev tm x (.pointer (some ⟨id, off, none⟩))) (hy : Ev tm y (.int k i)) (hi : 0 ≤ i ∧ i < m)
    (h : K (.pointer (some ⟨id, off + i.toNat * es, none⟩)) s) : AOp P ⟨d, .indexAddr xt x y, t, p, af, gd⟩ tm s K :=
  ⟨_, by rw [hx.eq, hy.eq]; simp only [aindexAddr, h1.is, h2.is, if_pos hi], h⟩
theorem fieldV {x : Operand} {xt : TypeId} {f : Nat} {v v' : Value} (hx : Ev tm x v) (hv : afieldV P xt v f = some v') (h : K v' s) : AOp P ⟨d, .field xt x f, t, p, af, gd⟩ tm s K := ⟨v', by rw [hx.eq]; exact hv, h⟩
theorem indexV {x y : Operand} {xt : TypeId} {v vy v' : Value} (hx : Ev tm x v) (hy : Ev tm y vy) (hv : aindexV P xt v vy = some v') (h : K v' s) : AOp P ⟨d, .index xt x y, t, p, af, gd⟩ tm s K := ⟨v', by rw [hx.eq, hy.eq]; exact hv, h⟩
theorem slice {x : Operand} {xt : TypeId} {lo hi mx : Option Operand} {v v' : Value} {vl vh vm : Option Value} (hx : Ev tm x v) (h1 : EvO tm lo vl) (h2 : EvO tm hi vh) (h3 : EvO tm mx vm) (hv : aslice P xt s v vl vh vm = some v') (h : K v' s) :
    AOp P ⟨d, .slice xt x lo hi mx, t, p, af, gd⟩ tm s K := ⟨v', by rw [hx.eq, h1.eq, h2.eq, h3.eq]; exact hv, h⟩
theorem box (id : Nat) {x : Operand} {e : TypeId} {v : Value} (hx : Ev tm x v) (hid : Free s id) (hn : notTup v = true) (h : K (.pointer (some ⟨id, 0, none⟩)) (s.set id (.cells true 1 v.cells.toList))) :
    AOp P ⟨d, .box e x, t, p, af, gd⟩ tm s K := ⟨id, hid, by rw [hx.eq]; exact hn, by rw [hx.eq]; exact h⟩
theorem alloc (id : Nat) {e : TypeId} {td : TD} [h1 : HasTD P e td] (hid : Free s id) (hp : plB td.zero = true) (h : K (.pointer (some ⟨id, 0, none⟩)) (s.set id (.cells true 1 td.zero.cells.toList))) :
    AOp P ⟨d, .alloc e, t, p, af, gd⟩ tm s K := ⟨id, td, h1.is, hid, hp, h⟩
theorem build {xt : TypeId} {parts : Array (Nat × Operand)} {l : List (Nat × Value)} {v : Value} (hp : EvP tm parts.toList l) (hv : abuild P xt l = some v) (h : K v s) : AOp P ⟨d, .build xt parts, t, p, af, gd⟩ tm s K :=
  ⟨v, by rw [hp.eq]; exact hv, h⟩
theorem buildSlice (id : Nat) {xt : TypeId} {n : Nat} {parts : Array (Nat × Operand)} {l : List (Nat × Value)} {e : TypeId} {sz by_ : Nat} {z : Value} {te : TD} [h1 : HasTD P xt ⟨.slice e, sz, by_, z⟩] [h2 : HasTD P e te] {c : List Value} (hp : EvP tm parts.toList l) (hid : Free s id)
    (hz : te.zero.cells.size = te.size ∧ n * te.size ≤ 16777216 ∧ plB te.zero = true) (hc : afill (fun i => some (i * te.size, te.size)) (zrep n te.zero.cells.toList) l = some c)
    (h : K (.slice (some ⟨id, 0, none⟩) n n) (s.set id (.cells true te.size c))) : AOp P ⟨d, .buildSlice xt n parts, t, p, af, gd⟩ tm s K :=
  ⟨id, _, _, by rw [hp.eq]; simp only [abuildSlice, h1.is, h2.is]; rw [if_pos ⟨hz.1, hz.2.1, hz.2.2, hid⟩, hc], h⟩
theorem build1 (id : Nat) {xt e : TypeId} {sz by_ eb : Nat} {z z1 v : Value} {ke : TK} {x : Operand} [h1 : HasTD P xt ⟨.slice e, sz, by_, z⟩] [h2 : HasTD P e ⟨ke, 1, eb, z1⟩] (hx : Ev tm x v) (hv : v.cells.toList = [v] ∧ notTup v = true) (hz : z1.cells.size = 1 ∧ plB z1 = true) (hid : Free s id)
    (h : K (.slice (some ⟨id, 0, none⟩) 1 1) (s.set id (.cells true 1 [v]))) : AOp P ⟨d, .buildSlice xt 1 #[(0, x)], t, p, af, gd⟩ tm s K := by
  refine buildSlice id (te := ⟨ke, 1, eb, z1⟩) (l := [(0, v)]) (c := [v]) ?_ hid ⟨hz.1, by show 1 * 1 ≤ _; omega, hz.2⟩ ?_ h
  · exact EvP.cons hx EvP.nil
  · obtain ⟨a, ha⟩ : ∃ a, z1.cells.toList = [a] := by
      have : z1.cells.toList.length = 1 := by simpa using hz.1
      match e : z1.cells.toList, this with
      | [a], _ => exact ⟨a, rfl⟩
    show afill _ (zrep 1 z1.cells.toList) [(0, v)] = _
    rw [ha]
    have hs : v.cells.size = 1 := by rw [← Array.length_toList, hv.1]; rfl
    simp [afill, zrep, splice, hv.1, hv.2, hs]
theorem build0 (id : Nat) {xt e : TypeId} {sz by_ : Nat} {z : Value} {te : TD} [h1 : HasTD P xt ⟨.slice e, sz, by_, z⟩] [h2 : HasTD P e te] (hz : te.zero.cells.size = te.size ∧ plB te.zero = true) (hid : Free s id)
    (h : K (.slice (some ⟨id, 0, none⟩) 0 0) (s.set id (.cells true te.size []))) : AOp P ⟨d, .buildSlice xt 0 #[], t, p, af, gd⟩ tm s K := by
  refine buildSlice id (te := te) (l := []) (c := []) EvP.nil hid ⟨hz.1, by omega, hz.2⟩ ?_ h
  simp [afill, zrep]
theorem len {x : Operand} {xt e : TypeId} {sz by_ : Nat} {z : Value} [h1 : HasTD P xt ⟨.slice e, sz, by_, z⟩] {a : Option Addr} {n c : Nat} (hx : Ev tm x (.slice a n c)) (h : K (.int .i64 n) s) :
    AOp P ⟨d, .call ⟨.builtin .len, #[x], #[xt]⟩, t, p, af, gd⟩ tm s K := ⟨_, by rw [hx.eq]; simp only [alen, h1.is], h⟩
theorem lenStr {x : Operand} {xt : TypeId} {sz by_ : Nat} {z : Value} [h1 : HasTD P xt ⟨.str, sz, by_, z⟩] {b : ByteArray} (hx : Ev tm x (.string b)) (h : K (.int .i64 b.size) s) :
    AOp P ⟨d, .call ⟨.builtin .len, #[x], #[xt]⟩, t, p, af, gd⟩ tm s K := ⟨_, by rw [hx.eq]; simp only [alen, h1.is], h⟩
theorem append (id : Nat) {x y : Operand} {t1 t2 : TypeId} {vx vy v : Value} {s' : AHeap} (hx : Ev tm x vx) (hy : Ev tm y vy) (hv : aappend P t1 t2 s vx vy id = some (v, s')) (h : K v s') :
    AOp P ⟨d, .call ⟨.builtin .append, #[x, y], #[t1, t2]⟩, t, p, af, gd⟩ tm s K := ⟨id, v, s', by rw [hx.eq, hy.eq]; exact hv, h⟩
theorem min2 {x y : Operand} {ts : Array TypeId} {k k' : IntKind} {a b : Int} (hx : Ev tm x (.int k a)) (hy : Ev tm y (.int k' b)) (h : K (.int k (if b < a then b else a)) s) :
    AOp P ⟨d, .call ⟨.builtin .min, #[x, y], ts⟩, t, p, af, gd⟩ tm s K := by
  refine ⟨_, ?_, h⟩
  show amm false [ev tm x, ev tm y] = _
  rw [hx.eq, hy.eq]; rfl
theorem max2 {x y : Operand} {ts : Array TypeId} {k k' : IntKind} {a b : Int} (hx : Ev tm x (.int k a)) (hy : Ev tm y (.int k' b)) (h : K (.int k (if b > a then b else a)) s) :
    AOp P ⟨d, .call ⟨.builtin .max, #[x, y], ts⟩, t, p, af, gd⟩ tm s K := by
  refine ⟨_, ?_, h⟩
  show amm true [ev tm x, ev tm y] = _
  rw [hx.eq, hy.eq]; rfl
theorem call {f : Operand} {g : FuncId} {first captured : Array Value} {args : Array Operand} {ts : Array TypeId} {l : List Value} {v : Value} {s' : AHeap} (hf : Ev tm f (.func (.func g) first captured)) (ha : Evs tm args.toList l)
    (hc : ACall P g (first.toList ++ l ++ captured.toList) s v s') (h : K v s') : AOp P ⟨d, .call ⟨.value f, args, ts⟩, t, p, af, gd⟩ tm s K := by
  simp only [AOp, hf.eq, ha.eq]; exact ⟨_, hc.toE, fun v' s1 e => by obtain ⟨rfl, rfl⟩ := e; exact h⟩
theorem callE {f : Operand} {g : FuncId} {first captured : Array Value} {args : Array Operand} {ts : Array TypeId} {l : List Value} {Q : Value → AHeap → Prop} (hf : Ev tm f (.func (.func g) first captured)) (ha : Evs tm args.toList l)
    (hc : ACallE P g (first.toList ++ l ++ captured.toList) s Q) (h : ∀ v s', Q v s' → K v s') : AOp P ⟨d, .call ⟨.value f, args, ts⟩, t, p, af, gd⟩ tm s K := by
  simp only [AOp, hf.eq, ha.eq]; exact ⟨Q, hc, h⟩
theorem callFE {g : FuncId} {args : Array Operand} {ts : Array TypeId} {l : List Value} {Q : Value → AHeap → Prop} (ha : Evs tm args.toList l)
    (hc : ACallE P g l s Q) (h : ∀ v s', Q v s' → K v s') : AOp P ⟨d, .call ⟨.value (.func g), args, ts⟩, t, p, af, gd⟩ tm s K :=
  callE .func ha (by simpa using hc) h
theorem callF {g : FuncId} {args : Array Operand} {ts : Array TypeId} {l : List Value} {v : Value} {s' : AHeap} (ha : Evs tm args.toList l)
    (hc : ACall P g l s v s') (h : K v s') : AOp P ⟨d, .call ⟨.value (.func g), args, ts⟩, t, p, af, gd⟩ tm s K :=
  call .func ha (by simpa using hc) h
theorem makeFunc {f : FuncId} {first captured : Array Operand} {l1 l2 : List Value} (h1 : Evs tm first.toList l1) (h2 : Evs tm captured.toList l2) (a1 : l1.all isAt = true) (a2 : l2.all isAt = true)
    (h : K (.func (.func f) l1.toArray l2.toArray) s) : AOp P ⟨d, .makeFunc (.func f) first captured, t, p, af, gd⟩ tm s K := by
  have e1 : first.map (ev tm) = l1.toArray := by apply Array.ext'; simpa using h1.eq
  have e2 : captured.map (ev tm) = l2.toArray := by apply Array.ext'; simpa using h2.eq
  refine ⟨?_, ?_, ?_⟩
  · rw [← h1.eq, List.all_map] at a1; exact a1
  · rw [← h2.eq, List.all_map] at a2; exact a2
  · rw [e1, e2]; exact h
theorem makeSlice (id : Nat) {x y : Operand} {xt : TypeId} {vx vy v : Value} {s' : AHeap} (hx : Ev tm x vx) (hy : Ev tm y vy) (hv : amakeSlice P xt s vx vy id = some (v, s')) (h : K v s') :
    AOp P ⟨d, .makeSlice xt x y, t, p, af, gd⟩ tm s K := ⟨id, v, s', by rw [hx.eq, hy.eq]; exact hv, h⟩

/-! the same rules, with their side conditions by kind -/
theorem pickG {c x y : Operand} {b : Bool} (hc : Ev tm c (.bool b)) (h : GK b true (PK tm x K s) (PK tm y K s)) : AOp P ⟨d, .pick c x y, t, p, af, gd⟩ tm s K := by
  cases b
  · refine ⟨false, hc.eq, ?_⟩; rw [if_neg (by simp)]; exact h.2 rfl
  · refine ⟨true, hc.eq, ?_⟩; rw [if_pos rfl]; exact h.1 rfl
theorem addG {x y : Operand} {ty : TypeId} {xt : TypeId} {sz by_ : Nat} {z : Value} [_h1 : HasTD P xt ⟨.int .i64, sz, by_, z⟩] {a b : Int} (hx : Ev tm x (.int .i64 a)) (hy : Ev tm y (.int .i64 b)) (hr : Rg (-9223372036854775808 ≤ a + b ∧ a + b ≤ 9223372036854775807)) (h : K (.int .i64 (a + b)) s) :
    AOp P ⟨d, .binOp .add xt x y ty, t, p, af, gd⟩ tm s K := add hx hy hr h
theorem subG {x y : Operand} {ty : TypeId} {xt : TypeId} {sz by_ : Nat} {z : Value} [_h1 : HasTD P xt ⟨.int .i64, sz, by_, z⟩] {a b : Int} (hx : Ev tm x (.int .i64 a)) (hy : Ev tm y (.int .i64 b)) (hr : Rg (-9223372036854775808 ≤ a - b ∧ a - b ≤ 9223372036854775807)) (h : K (.int .i64 (a - b)) s) :
    AOp P ⟨d, .binOp .sub xt x y ty, t, p, af, gd⟩ tm s K := sub hx hy hr h
theorem mulG {x y : Operand} {ty : TypeId} {xt : TypeId} {sz by_ : Nat} {z : Value} [_h1 : HasTD P xt ⟨.int .i64, sz, by_, z⟩] {a b : Int} (hx : Ev tm x (.int .i64 a)) (hy : Ev tm y (.int .i64 b)) (hr : Rg (-9223372036854775808 ≤ a * b ∧ a * b ≤ 9223372036854775807)) (h : K (.int .i64 (a * b)) s) :
    AOp P ⟨d, .binOp .mul xt x y ty, t, p, af, gd⟩ tm s K := mul hx hy hr h
theorem intG {op : BinOp} {x y : Operand} {ty : TypeId} {xt : TypeId} {kk : IntKind} {sz by_ : Nat} {z : Value} [_h1 : HasTD P xt ⟨.int kk, sz, by_, z⟩] {k k' : IntKind} {a b : Int} {v : Value} (hx : Ev tm x (.int k a)) (hy : Ev tm y (.int k' b)) (hv : aint op k a k' b = some v) (h : K v s) :
    AOp P ⟨d, .binOp op xt x y ty, t, p, af, gd⟩ tm s K := int hx hy hv h
theorem loadAggG {x : Operand} {xt : TypeId} {td : TD} [h1 : HasTD P xt td] {id off sz : Nat} {rw : Bool} {c l : List Value} (ha : td.agg = true) (hx : Ev tm x (.pointer (some ⟨id, off, none⟩))) (hs : At s id (.cells rw sz c))
    (hl : GetA c off td.size l) (h : K (.agg l.toArray) s) : AOp P ⟨d, .load xt x, t, p, af, gd⟩ tm s K := loadAgg hx hs ha hl.1 hl.2 h
theorem loadG {x : Operand} {xt : TypeId} {td : TD} [h1 : HasTD P xt td] {id off sz : Nat} {rw : Bool} {c : List Value} {v : Value} (ha : td.agg = false) (hx : Ev tm x (.pointer (some ⟨id, off, none⟩))) (hs : At s id (.cells rw sz c))
    (hv : Get c off v) (h : K v s) : AOp P ⟨d, .load xt x, t, p, af, gd⟩ tm s K := load hx hs ha hv h
theorem storeG {x y : Operand} {xt : TypeId} {td : TD} [h1 : HasTD P xt td] {id off sz : Nat} {c : List Value} {v : Value} (hz : td.size = 1) (hx : Ev tm x (.pointer (some ⟨id, off, none⟩))) (hy : Ev tm y v) (hs : At s id (.cells true sz c)) (hv : v.cells = #[v])
    (hn : notTup v = true) (ho : Lt off c.length) (h : K undef (s.set id (.cells true sz (c.set off v)))) : AOp P ⟨d, .store xt x y, t, p, af, gd⟩ tm s K := store hx hy hs hv hz hn ho h
theorem indexG {x y : Operand} {xt e : TypeId} {sz by_ : Nat} {z : Value} {ke : TK} {es eb : Nat} {ez : Value} [h1 : HasTD P xt ⟨.slice e, sz, by_, z⟩] [h2 : HasTD P e ⟨ke, es, eb, ez⟩] {id off : Nat} {sp : Option Nat} {n c : Nat} {k : IntKind} {i : Int} (hx : Ev tm x (.slice (some ⟨id, off, sp⟩) n c)) (hy : Ev tm y (.int k i)) (hi : Rg (0 ≤ i ∧ i < n))
    (h : IK off es i fun o => K (.pointer (some ⟨id, o, none⟩)) s) : AOp P ⟨d, .indexAddr xt x y, t, p, af, gd⟩ tm s K := index hx hy hi h
theorem indexArrG {x y : Operand} {xt e : TypeId} {m : Nat} {sz by_ : Nat} {z : Value} {ke : TK} {es eb : Nat} {ez : Value} [h1 : HasTD P xt ⟨.array m e, sz, by_, z⟩] [h2 : HasTD P e ⟨ke, es, eb, ez⟩] {id off : Nat} {k : IntKind} {i : Int} (hx : Ev tm x (.pointer (some ⟨id, off, none⟩))) (hy : Ev tm y (.int k i)) (hi : Rg (0 ≤ i ∧ i < m))
    (h : IK off es i fun o => K (.pointer (some ⟨id, o, none⟩)) s) : AOp P ⟨d, .indexAddr xt x y, t, p, af, gd⟩ tm s K := indexArr hx hy hi h

/-! append, by what is known of the room -/
theorem appendNil (id : Nat) {x y : Operand} {t1 t2 e : TypeId} {s1 b1 : Nat} {z1 : Value} {ke : TK} {es eb : Nat} {ez : Value} {k2 : TK} {s2 b2 : Nat} {z2 : Value} [h1 : HasTD P t1 ⟨.slice e, s1, b1, z1⟩] [he : HasTD P e ⟨ke, es, eb, ez⟩] [h2 : HasTD P t2 ⟨k2, s2, b2, z2⟩]
    {n0 c0 m : Nat} {vy : Value} {xs : List Value} (hx : Ev tm x (.slice none n0 c0)) (hy : Ev tm y vy) (hs : Src s es vy m xs) (hk : srcOk k2 = true) (hm : m ≠ 0) (hl : xs.length = m * es) (hz : ez.cells.size = es ∧ eb ≠ 0) (hb : m * eb ≤ 140737488355328) (hid : Free s id)
    (h : K (.slice (some ⟨id, 0, none⟩) m m) (s.set id (.cells true es xs))) : AOp P ⟨d, .call ⟨.builtin .append, #[x, y], #[t1, t2]⟩, t, p, af, gd⟩ tm s K :=
  append id hx hy (by unfold Src at hs; unfold Free at hid; simp only [aappend, h1.is, he.is, h2.is, hs, hk, if_true, if_neg hm]; rw [if_pos ⟨hz.1, hz.2, hb, hl, hid⟩]) h
theorem appendMove (id : Nat) {x y : Operand} {t1 t2 e : TypeId} {s1 b1 : Nat} {z1 : Value} {ke : TK} {es eb : Nat} {ez : Value} {k2 : TK} {s2 b2 : Nat} {z2 : Value} [h1 : HasTD P t1 ⟨.slice e, s1, b1, z1⟩] [he : HasTD P e ⟨ke, es, eb, ez⟩] [h2 : HasTD P t2 ⟨k2, s2, b2, z2⟩]
    {a off n c m : Nat} {vy : Value} {cs xs old : List Value} (hx : Ev tm x (.slice (some ⟨a, off, none⟩) n c)) (hy : Ev tm y vy) (hs : Src s es vy m xs) (ha : At s a (.cells true es cs)) (hk : srcOk k2 = true) (hm : m ≠ 0) (hr : ¬ n + m ≤ c) (hl : xs.length = m * es) (hz : ez.cells.size = es ∧ eb ≠ 0) (hb : (n + m) * eb ≤ 140737488355328) (hid : Free s id)
    (ho : off + n * es ≤ cs.length) (hold : (cs.drop off).take (n * es) = old)
    (h : K (.slice (some ⟨id, 0, none⟩) (n + m) (n + m)) ((s.set a .dead).set id (.cells true es (old ++ xs)))) : AOp P ⟨d, .call ⟨.builtin .append, #[x, y], #[t1, t2]⟩, t, p, af, gd⟩ tm s K := by
  subst hold
  exact append id hx hy (by unfold Src at hs; unfold Free at hid; unfold At at ha; simp only [aappend, h1.is, he.is, h2.is, hs, hk, if_true, if_neg hm, if_neg hr]; rw [if_pos ⟨hz.1, hz.2, hb, hl, hid⟩]; simp [ha, ho]) h
theorem appendRoom {x y : Operand} {t1 t2 e : TypeId} {s1 b1 : Nat} {z1 : Value} {ke : TK} {es eb : Nat} {ez : Value} {k2 : TK} {s2 b2 : Nat} {z2 : Value} [h1 : HasTD P t1 ⟨.slice e, s1, b1, z1⟩] [he : HasTD P e ⟨ke, es, eb, ez⟩] [h2 : HasTD P t2 ⟨k2, s2, b2, z2⟩]
    {a off n c m : Nat} {sp : Option Nat} {vy : Value} {cs xs : List Value} (hx : Ev tm x (.slice (some ⟨a, off, sp⟩) n c)) (hy : Ev tm y vy) (hs : Src s es vy m xs) (ha : At s a (.cells true es cs)) (hk : srcOk k2 = true) (hm : m ≠ 0) (hr : n + m ≤ c) (hl : xs.length = m * es)
    (ho : off + (n + m) * es ≤ cs.length)
    (h : K (.slice (some ⟨a, off, sp⟩) (n + m) c) (s.set a (.cells true es (splice cs (off + n * es) xs)))) : AOp P ⟨d, .call ⟨.builtin .append, #[x, y], #[t1, t2]⟩, t, p, af, gd⟩ tm s K :=
  append 0 hx hy (by unfold Src at hs; unfold At at ha; simp only [aappend, h1.is, he.is, h2.is, hs, hk, if_true, if_neg hm, if_pos hr, ha]; rw [if_pos ⟨trivial, ho, hl⟩]) h
theorem appendFull (id : Nat) {x y : Operand} {t1 t2 e : TypeId} {s1 b1 : Nat} {z1 : Value} {ke : TK} {es eb : Nat} {ez : Value} {k2 : TK} {s2 b2 : Nat} {z2 : Value} [h1 : HasTD P t1 ⟨.slice e, s1, b1, z1⟩] [he : HasTD P e ⟨ke, es, eb, ez⟩] [h2 : HasTD P t2 ⟨k2, s2, b2, z2⟩]
    {a off n c m q : Nat} {vy : Value} {xs old : List Value} (hx : Ev tm x (.slice (some ⟨a, off, some q⟩) n c)) (hy : Ev tm y vy) (hs : Src s es vy m xs) (ho : Src s es (.slice (some ⟨a, off, some q⟩) n c) n old) (hk : srcOk k2 = true) (hm : m ≠ 0) (hr : ¬ n + m ≤ c) (hl : xs.length = m * es) (hl2 : old.length = n * es) (hz : ez.cells.size = es ∧ eb ≠ 0) (hb : (n + m) * eb ≤ 140737488355328) (hid : Free s id)
    (h : K (.slice (some ⟨id, 0, none⟩) (n + m) (n + m)) (s.set id (.cells true es (old ++ xs)))) : AOp P ⟨d, .call ⟨.builtin .append, #[x, y], #[t1, t2]⟩, t, p, af, gd⟩ tm s K :=
  append id hx hy (by unfold Src at hs ho; unfold Free at hid; simp only [aappend, h1.is, he.is, h2.is, hs, hk, if_true, if_neg hm, if_neg hr]; rw [if_pos ⟨hz.1, hz.2, hb, hl, hid⟩]; simp [ho, hl2]) h
theorem appendNone {x y : Operand} {t1 t2 e : TypeId} {s1 b1 : Nat} {z1 : Value} {te : TD} {k2 : TK} {s2 b2 : Nat} {z2 : Value} [h1 : HasTD P t1 ⟨.slice e, s1, b1, z1⟩] [he : HasTD P e te] [h2 : HasTD P t2 ⟨k2, s2, b2, z2⟩]
    {a : Addr} {n c : Nat} {vy : Value} {xs : List Value} (hx : Ev tm x (.slice (some a) n c)) (hy : Ev tm y vy) (hs : Src s te.size vy 0 xs) (hk : srcOk k2 = true)
    (h : K (.slice (some a) n c) s) : AOp P ⟨d, .call ⟨.builtin .append, #[x, y], #[t1, t2]⟩, t, p, af, gd⟩ tm s K :=
  append 0 hx hy (by unfold Src at hs; simp only [aappend, h1.is, he.is, h2.is, hs, hk, if_true]) h
theorem appendNoneN {x y : Operand} {t1 t2 e : TypeId} {s1 b1 : Nat} {z1 : Value} {te : TD} {k2 : TK} {s2 b2 : Nat} {z2 : Value} [h1 : HasTD P t1 ⟨.slice e, s1, b1, z1⟩] [he : HasTD P e te] [h2 : HasTD P t2 ⟨k2, s2, b2, z2⟩]
    {n c : Nat} {vy : Value} {xs : List Value} (hx : Ev tm x (.slice none n c)) (hy : Ev tm y vy) (hs : Src s te.size vy 0 xs) (hk : srcOk k2 = true)
    (h : K (.slice none 0 0) s) : AOp P ⟨d, .call ⟨.builtin .append, #[x, y], #[t1, t2]⟩, t, p, af, gd⟩ tm s K :=
  append 0 hx hy (by unfold Src at hs; simp only [aappend, h1.is, he.is, h2.is, hs, hk, if_true]) h
theorem appendL (N : Nat) {x y : Operand} {t1 t2 e : TypeId} {s1 b1 : Nat} {z1 : Value} {ke : TK} {es eb : Nat} {ez : Value} {k2 : TK} {s2 b2 : Nat} {z2 : Value} [h1 : HasTD P t1 ⟨.slice e, s1, b1, z1⟩] [he : HasTD P e ⟨ke, es, eb, ez⟩] [h2 : HasTD P t2 ⟨k2, s2, b2, z2⟩]
    {v vy : Value} {on : Option Nat} {n m : Nat} {xs ys : List Value} (hx : Ev tm x v) (hL : LAt s es v on n xs) (hy : Ev tm y vy) (hs : Src s es vy m ys) (hk : srcOk k2 = true) (hm : m ≠ 0) (hl : ys.length = m * es) (hz : ez.cells.size = es ∧ eb ≠ 0) (hb : (n + m) * eb ≤ 140737488355328) (hfree : Free s N)
    (h : ∀ s', Grew s s' on N (.cells true es (xs ++ ys)) → K (.slice (some ⟨N, 0, none⟩) (n + m) (n + m)) s') : AOp P ⟨d, .call ⟨.builtin .append, #[x, y], #[t1, t2]⟩, t, p, af, gd⟩ tm s K := by
  cases hL with
  | nil =>
    have h' := h (s.set N (.cells true es ([] ++ ys))) ⟨At.hit, fun i _ hi => AHeap.set_other _ _ hi, hfree⟩
    rw [Nat.zero_add] at h' hb
    exact appendNil N hx hy hs hk hm hl hz hb hfree h'
  | @blk o sp _ _ ha hlx =>
    cases sp with
    | none =>
      refine appendMove N hx hy hs ha hk hm (by omega) hl hz hb hfree (by omega) (by rw [List.drop_zero, ← hlx, List.take_length]) (h _ ⟨At.hit, fun i hi hc => by rw [AHeap.set_other _ _ hc, AHeap.set_other _ _ (fun e => hi (by rw [e]))], hfree⟩)
    | some q =>
      exact appendFull N hx hy hs (srcAll ha hlx) hk hm (by omega) hl hlx hz hb hfree (h _ ⟨At.hit, fun i _ hc => AHeap.set_other _ _ hc, hfree⟩)
end
end O

section
variable {P : Program} {n : Nat} {Q : AExit → Env → AHeap → Prop} {tm : Env} {s : AHeap}
theorem AWp.seqR {id : Nat} {l : List Oper} {y : Code} (h : AOps P l.toArray l tm s fun tm s => AWp P n y Q tm s) : AWp P n (.seq (.region id l.toArray false) y) Q tm s := AWp.seq (AWp.region h)
/-- A cut behind 'x': what is known there. -/
theorem AWp.cut (M : Env → AHeap → Prop) {x y : Code} (h : AWp P n x (fun e tm s => e = .normal ∧ M tm s) tm s) (h2 : ∀ tm s, M tm s → AWp P n y Q tm s) : AWp P n (.seq x y) Q tm s :=
  AWp.seq (h.mono fun e tm s h => by obtain ⟨rfl, h⟩ := h; exact h2 tm s h)
theorem AWp.condT {c : Operand} {x y : Code} {b : Bool} (hc : Ev tm c (.bool b)) (ht : b = true → AWp P n x Q tm s) (hf : b = false → AWp P n y Q tm s) : AWp P n (.cond c x y) Q tm s := AWp.cond hc.eq ht hf
end

/-! ### ways through code -/
namespace X
section
variable {P : Program} {n k id id' : Nat} {Q : AExit → Env → AHeap → Prop} {tm : Env} {s : AHeap} {y : Code} {I : Nat → Env → AHeap → Prop}
theorem stopA {id : Nat} {l : Array Oper} {d : Bool} {y z : Code} (h : AWp P n (.seq (.seq (.region id l d) y) z) Q tm s) : AWp P n (.seq (.seq (.region id l d) y) z) Q tm s := h
theorem stopB {id : Nat} {l : Array Oper} {d : Bool} {z : Code} (h : AWp P n (.seq (.region id l d) z) Q tm s) : AWp P n (.seq (.region id l d) z) Q tm s := h
theorem thenN (h : AWp P n y Q tm s) : thenQ P n y Q .normal tm s := h
theorem thenE (h : Q (.exit id) tm s) : thenQ P n y Q (.exit id) tm s := h
theorem thenR (h : Q .ret tm s) : thenQ P n y Q .ret tm s := h
theorem blockN (h : Q .normal tm s) : blockQ id Q .normal tm s := h
theorem blockR (h : Q .ret tm s) : blockQ id Q .ret tm s := h
theorem blockE (h : Q .normal tm s) : blockQ id Q (.exit id) tm s := by simp only [blockQ, if_true]; exact h
theorem blockO (hne : id' ≠ id) (h : Q (.exit id') tm s) : blockQ id Q (.exit id') tm s := by simp only [blockQ, if_neg hne]; exact h
theorem roundE (h : Q (.exit id) tm s) : roundQ I k Q (.exit id) tm s := h
theorem roundR (h : Q .ret tm s) : roundQ I k Q .ret tm s := h
theorem roundN (m : Nat) (hm : m < k) (h : I m tm s) : roundQ I k Q .normal tm s := ⟨m, hm, h⟩
theorem condT {c : Operand} {x : Code} (hc : Ev tm c (.bool true)) (h : AWp P n x Q tm s) : AWp P n (.cond c x y) Q tm s := AWp.condT hc (fun _ => h) (fun e => by cases e)
theorem condF {c : Operand} {x : Code} (hc : Ev tm c (.bool false)) (h : AWp P n y Q tm s) : AWp P n (.cond c x y) Q tm s := AWp.condT hc (fun e => by cases e) (fun _ => h)
theorem condY {c : Operand} {x : Code} {b : Bool} (hc : Ev tm c (.bool b)) (hb : b = true) (h : AWp P n x Q tm s) : AWp P n (.cond c x y) Q tm s := by subst hb; exact condT hc h
theorem condN {c : Operand} {x : Code} {b : Bool} (hc : Ev tm c (.bool b)) (hb : b = false) (h : AWp P n y Q tm s) : AWp P n (.cond c x y) Q tm s := by subst hb; exact condF hc h
theorem condD {c : Operand} {x : Code} {φ : Prop} {inst : Decidable φ} (hc : Ev tm c (.bool (decide φ))) (ht : decide φ = true → φ → AWp P n x Q tm s) (hf : decide φ = false → ¬ φ → AWp P n y Q tm s) : AWp P n (.cond c x y) Q tm s :=
  AWp.condT hc (fun h => ht h (of_decide_eq_true h)) (fun h => hf h (of_decide_eq_false h))
theorem condG {c : Operand} {x : Code} {b : Bool} (hc : Ev tm c (.bool b)) (h : GK b true (AWp P n x Q tm s) (AWp P n y Q tm s)) : AWp P n (.cond c x y) Q tm s :=
  AWp.condT hc h.1 h.2
theorem condB {c : Operand} {x : Code} {b : Bool} (hc : Ev tm c (.bool b)) (ht : b = true → AWp P n x Q tm s) (hf : b = false → AWp P n y Q tm s) : AWp P n (.cond c x y) Q tm s := AWp.condT hc ht hf
end
end X

/-! ### leaving a function -/
inductive EvR (P : Program) (tm : Env) (s : AHeap) : List ResultVar → List Value → Prop
  | nil : EvR P tm s [] []
  | tmp {t v r l} (h : Ev tm (.tmp t) v) (rest : EvR P tm s r l) : EvR P tm s (.tmp t :: r) (v :: l)
  | cell {a t v w r l} (h : Ev tm (.tmp a) w) (hv : aload P t s w = some v) (rest : EvR P tm s r l) : EvR P tm s (.cell a t :: r) (v :: l)
theorem EvR.eq {P : Program} {tm : Env} {s : AHeap} {rs l} (h : EvR P tm s rs l) : ares P tm s rs = some l := by
  induction h with
  | nil => rfl
  | tmp h rest ih => have := h.eq; simp only [ev] at this; simp [ares, ih, this]
  | cell h hv rest ih => have := h.eq; simp only [ev] at this; simp [ares, ih, this, hv]

/-- What is asked at a function's end. -/
def RetQ (P : Program) (rs : List ResultVar) (s s' : AHeap) (v : Value) : AExit → Env → AHeap → Prop := fun x tm s1 =>
  (∀ id, x ≠ .exit id) ∧ ∃ l π, ares P tm s1 rs = some l ∧ goodRes l = true ∧ resV l = mpR π v ∧ KeepsR π s s1 s' v
theorem RetQ.ret {P : Program} {rs : List ResultVar} {s s' s1 : AHeap} {v : Value} {tm : Env} {l : List Value} (he : EvR P tm s1 rs l) (hg : goodRes l = true) (hv : resV l = v) (hk : Keeps s s1 s' v) : RetQ P rs s s' v .ret tm s1 :=
  ⟨fun _ => by simp, l, _, he.eq, hg, by rw [mpR_id]; exact hv, hk.ren⟩
theorem RetQ.normal {P : Program} {rs : List ResultVar} {s s' s1 : AHeap} {v : Value} {tm : Env} {l : List Value} (he : EvR P tm s1 rs l) (hg : goodRes l = true) (hv : resV l = v) (hk : Keeps s s1 s' v) : RetQ P rs s s' v .normal tm s1 :=
  ⟨fun _ => by simp, l, _, he.eq, hg, by rw [mpR_id]; exact hv, hk.ren⟩
theorem RetQ.retR {P : Program} {rs : List ResultVar} {s s' s1 : AHeap} {v : Value} {tm : Env} {l : List Value} {x : AExit} (π : Nat → Nat) (he : EvR P tm s1 rs l) (hg : goodRes l = true) (hv : resV l = mpR π v) (hk : KeepsR π s s1 s' v) (hx : ∀ id, x ≠ .exit id) : RetQ P rs s s' v x tm s1 :=
  ⟨hx, l, _, he.eq, hg, hv, hk⟩
theorem ACall.make {P : Program} {f : FuncId} {fn : Func} {c : Code} {args : List Value} {s s' : AHeap} {v : Value} (hf : P.funcs[f]? = some fn) (hb : fn.body = some c) (hg : goodC fn.ntmps c = true) (hnm : (fn.name == "runtime.NumGoroutine") = false)
    (hlen : decide (args.length ≤ fn.ntmps) = true) (h : ∀ N, (∀ id, N ≤ id → s id = none) → AWp P fn.ntmps c (RetQ P fn.results.toList s s' v) (nargs args) s) : ACall P f args s v s' :=
  ACall.intro hf hb hg hnm (of_decide_eq_true hlen) h

/-- What a call leaves, one of several. -/
def RetE (P : Program) (rs : List ResultVar) (s : AHeap) (Q : Value → AHeap → Prop) : AExit → Env → AHeap → Prop := fun x tm s1 =>
  (∀ id, x ≠ .exit id) ∧ ∃ l s', ares P tm s1 rs = some l ∧ goodRes l = true ∧ Q (resV l) s' ∧ Keeps s s1 s' (resV l)
theorem RetE.ret {P : Program} {rs : List ResultVar} {s s' s1 : AHeap} {Q : Value → AHeap → Prop} {tm : Env} {l : List Value} (he : EvR P tm s1 rs l) (hg : goodRes l = true) (hq : Q (resV l) s') (hk : Keeps s s1 s' (resV l)) : RetE P rs s Q .ret tm s1 :=
  ⟨fun _ => by simp, l, s', he.eq, hg, hq, hk⟩
theorem RetE.normal {P : Program} {rs : List ResultVar} {s s' s1 : AHeap} {Q : Value → AHeap → Prop} {tm : Env} {l : List Value} (he : EvR P tm s1 rs l) (hg : goodRes l = true) (hq : Q (resV l) s') (hk : Keeps s s1 s' (resV l)) : RetE P rs s Q .normal tm s1 :=
  ⟨fun _ => by simp, l, s', he.eq, hg, hq, hk⟩
theorem ACallE.make {P : Program} {f : FuncId} {fn : Func} {c : Code} {args : List Value} {s : AHeap} {Q : Value → AHeap → Prop} (hf : P.funcs[f]? = some fn) (hb : fn.body = some c) (hg : goodC fn.ntmps c = true) (hnm : (fn.name == "runtime.NumGoroutine") = false)
    (hlen : decide (args.length ≤ fn.ntmps) = true) (h : ∀ N, (∀ id, N ≤ id → s id = none) → AWp P fn.ntmps c (RetE P fn.results.toList s Q) (nargs args) s) : ACallE P f args s Q :=
  ACallE.intro hf hb hg hnm (of_decide_eq_true hlen) h

theorem Keeps.same {s s1 : AHeap} {v : Value} (h : ∀ id b, s id = some b → s1 id = some b) (hv : nmR (fun i => (s i).isSome = true) v) : Keeps s s1 s v :=
  ⟨h, fun _ h => h, fun _ _ h => .inl h, hv⟩
theorem Keeps.self {s : AHeap} {v : Value} (hv : nmR (fun i => (s i).isSome = true) v) : Keeps s s s v := Keeps.same (fun _ _ h => h) hv
theorem nmR.imp {D E : Nat → Prop} (h : ∀ i, D i → E i) {x : Value} (hx : nmR D x) : nmR E x := by
  cases x <;> simp only [nmR] at * <;> first | exact nmB.imp h hx | exact fun x m => nmB.imp h (hx x m)
/-- Another block at one name that was there. -/
theorem Keeps.one {s s1 : AHeap} {v : Value} {id : Nat} {b b0 : ABlk} (h0 : s id = some b0) (h1 : s1 id = some b) (h : ∀ i, i ≠ id → ∀ c, s i = some c → s1 i = some c) (hb : b.nm fun i => (s i).isSome = true)
    (hv : nmR (fun i => (s i).isSome = true) v) : Keeps s s1 (s.set id b) v := by
  have hd : ∀ i, (s i).isSome = true → ((s.set id b) i).isSome = true := fun i hi => by
    by_cases e : i = id
    · subst e; rw [AHeap.set_same]; rfl
    · rw [AHeap.set_other _ _ e]; exact hi
  refine ⟨fun i c hc => ?_, hd, fun i c hc => ?_, ?_⟩
  · by_cases e : i = id
    · subst e; rw [AHeap.set_same] at hc; rw [← hc]; exact h1
    · rw [AHeap.set_other _ _ e] at hc; exact h i e c hc
  · by_cases e : i = id
    · subst e; rw [AHeap.set_same] at hc; obtain rfl := Option.some.inj hc; exact .inr (ABlk.nm_imp hd hb)
    · rw [AHeap.set_other _ _ e] at hc; exact .inl hc
  · exact nmR.imp hd hv

theorem At.eq {s : AHeap} {id : Nat} {b : ABlk} (h : At s id b) : s id = some b := h
theorem Free.eq {s : AHeap} {id : Nat} (h : Free s id) : s id = none := h
/-- 's1' holds what 's' held, but for some names. -/
def Fr (s1 s : AHeap) (ids : List Nat) : Prop := ∀ i, i ∉ ids → ∀ c, s i = some c → s1 i = some c
theorem Fr.refl (s : AHeap) (ids : List Nat) : Fr s s ids := fun _ _ _ h => h
theorem Fr.set {s1 s : AHeap} {ids : List Nat} {id : Nat} {b : ABlk} (hid : id ∈ ids) (h : Fr s1 s ids) : Fr (s1.set id b) s ids := fun i hi c hc => by
  rw [AHeap.set_other _ _ (fun e => by subst e; exact hi hid)]; exact h i hi c hc
theorem Fr.new {s1 s : AHeap} {ids : List Nat} {id : Nat} {b : ABlk} (hid : Free s id) (h : Fr s1 s ids) : Fr (s1.set id b) s ids := fun i hi c hc => by
  rw [AHeap.set_other _ _ (fun e => by subst e; rw [hid.eq] at hc; cases hc)]; exact h i hi c hc

def AllAt (s1 s' : AHeap) : List (Nat × ABlk) → Prop
  | [] => True
  | p :: r => (At s1 p.1 p.2 ∧ p.2.nm fun i => (s' i).isSome = true) ∧ AllAt s1 s' r
theorem AllAt.mem {s1 s' : AHeap} : ∀ {d : List (Nat × ABlk)}, AllAt s1 s' d → ∀ p ∈ d, At s1 p.1 p.2 ∧ p.2.nm fun i => (s' i).isSome = true
  | q :: r, h, p, hp => by
    rcases List.mem_cons.1 hp with rfl | hp
    · exact h.1
    · exact h.2.mem p hp
theorem updH_get {d : List (Nat × ABlk)} : ∀ {s : AHeap} {id : Nat}, id ∈ d.map (·.1) → ∃ b, (id, b) ∈ d ∧ updH s d id = some b := by
  induction d with
  | nil => intro s id h; cases h
  | cons x d ih =>
    intro s id h
    rw [updH]
    by_cases hd : id ∈ d.map (·.1)
    · obtain ⟨b, h1, h2⟩ := ih (s := s.set x.1 x.2) hd
      exact ⟨b, List.mem_cons_of_mem _ h1, h2⟩
    · simp only [List.map_cons, List.mem_cons] at h
      obtain rfl := h.resolve_right hd
      exact ⟨x.2, List.mem_cons_self .., by rw [updH_out hd, AHeap.set_same]⟩
theorem updH_some {d : List (Nat × ABlk)} {s : AHeap} {i : Nat} (h : (s i).isSome = true ∨ i ∈ d.map (·.1)) : (updH s d i).isSome = true := by
  by_cases hd : i ∈ d.map (·.1)
  · obtain ⟨b, _, h2⟩ := updH_get (s := s) hd; rw [h2]; rfl
  · rw [updH_out hd]; exact h.resolve_right hd
/-- Blocks at some names, old or new. -/
theorem Keeps.upd {s s1 : AHeap} {v : Value} (d : List (Nat × ABlk)) (hf : Fr s1 s (d.map (·.1))) (ha : AllAt s1 (updH s d) d) (hv : nmR (fun i => (updH s d i).isSome = true) v) : Keeps s s1 (updH s d) v := by
  refine ⟨fun i c hc => ?_, fun i hi => updH_some (.inl hi), fun i c hc => ?_, hv⟩
  · by_cases hd : i ∈ d.map (·.1)
    · obtain ⟨b, h1, h2⟩ := updH_get (s := s) hd
      rw [h2] at hc; obtain rfl := Option.some.inj hc
      exact (ha.mem _ h1).1.eq
    · rw [updH_out hd] at hc; exact hf i hd c hc
  · by_cases hd : i ∈ d.map (·.1)
    · obtain ⟨b, h1, h2⟩ := updH_get (s := s) hd
      rw [h2] at hc; obtain rfl := Option.some.inj hc
      exact .inr (ha.mem _ h1).2
    · rw [updH_out hd] at hc; exact .inl hc
/-- New names for new blocks: (the name at the end, the walk's name, the block as it stands at the end). -/
def renL : List (Nat × Nat) → Nat → Nat
  | [], i => i
  | (a, b) :: r, i => if i = a then b else renL r i
def newH (s : AHeap) : List (Nat × Nat × ABlk) → AHeap
  | [] => s
  | (a, _, b) :: r => newH (s.set a b) r
theorem renL_out : ∀ {d : List (Nat × Nat)} {i : Nat}, i ∉ d.map (·.1) → renL d i = i
  | [], _, _ => rfl
  | (a, b) :: r, i, h => by
    simp only [List.map_cons, List.mem_cons, not_or] at h
    rw [renL, if_neg h.1, renL_out h.2]
theorem renL_mem : ∀ {d : List (Nat × Nat)} {i : Nat}, i ∈ d.map (·.1) → (i, renL d i) ∈ d
  | (a, b) :: r, i, h => by
    rw [renL]; split
    · rename_i e; subst e; exact List.mem_cons_self ..
    · rename_i e; simp only [List.map_cons, List.mem_cons] at h
      exact List.mem_cons_of_mem _ (renL_mem (h.resolve_left e))
theorem renL_at : ∀ {d : List (Nat × Nat)} {i b : Nat}, (d.map (·.1)).Nodup → (i, b) ∈ d → renL d i = b
  | (a, b) :: r, i, c, hn, h => by
    simp only [List.map_cons, List.nodup_cons] at hn
    rw [renL]
    rcases List.mem_cons.1 h with e | h2
    · obtain ⟨rfl, rfl⟩ := Prod.mk.inj e; rw [if_pos rfl]
    · rw [if_neg (fun e => hn.1 (by subst e; exact List.mem_map.2 ⟨(i, c), h2, rfl⟩))]; exact renL_at hn.2 h2
def AllR (π : Nat → Nat) (s s1 s' : AHeap) : List (Nat × Nat × ABlk) → Prop
  | [] => True
  | p :: r => (At s1 p.2.1 (p.2.2.mp π) ∧ (p.2.2.nm fun i => (s' i).isSome = true) ∧ (p.1 = p.2.1 ∨ (s p.1 = none ∧ s p.2.1 = none))) ∧ AllR π s s1 s' r
theorem AllR.mem {π : Nat → Nat} {s s1 s' : AHeap} : ∀ {d : List (Nat × Nat × ABlk)}, AllR π s s1 s' d → ∀ p ∈ d, At s1 p.2.1 (p.2.2.mp π) ∧ (p.2.2.nm fun i => (s' i).isSome = true) ∧ (p.1 = p.2.1 ∨ (s p.1 = none ∧ s p.2.1 = none))
  | q :: r, h, p, hp => by
    rcases List.mem_cons.1 hp with rfl | hp
    · exact h.1
    · exact h.2.mem p hp
theorem newH_out : ∀ {d : List (Nat × Nat × ABlk)} {s : AHeap} {i : Nat}, i ∉ d.map (·.1) → newH s d i = s i
  | [], _, _, _ => rfl
  | (a, c, b) :: r, s, i, h => by
    simp only [List.map_cons, List.mem_cons, not_or] at h
    rw [newH, newH_out h.2, AHeap.set_other _ _ h.1]
theorem newH_get : ∀ {d : List (Nat × Nat × ABlk)} {s : AHeap} {i : Nat}, i ∈ d.map (·.1) → ∃ c b, (i, c, b) ∈ d ∧ newH s d i = some b
  | (a, c, b) :: r, s, i, h => by
    rw [newH]
    by_cases hd : i ∈ r.map (·.1)
    · obtain ⟨c', b', h1, h2⟩ := newH_get (s := s.set a b) hd
      exact ⟨c', b', List.mem_cons_of_mem _ h1, h2⟩
    · simp only [List.map_cons, List.mem_cons] at h
      obtain rfl := h.resolve_right hd
      exact ⟨c, b, List.mem_cons_self .., by rw [newH_out hd, AHeap.set_same]⟩
theorem newH_some {d : List (Nat × Nat × ABlk)} {s : AHeap} {i : Nat} (h : (s i).isSome = true ∨ i ∈ d.map (·.1)) : (newH s d i).isSome = true := by
  by_cases hd : i ∈ d.map (·.1)
  · obtain ⟨c, b, _, h2⟩ := newH_get (s := s) hd; rw [h2]; rfl
  · rw [newH_out hd]; exact h.resolve_right hd
theorem newH_fin : ∀ (d : List (Nat × Nat × ABlk)) {s : AHeap}, (∃ N, ∀ id, N ≤ id → s id = none) → ∃ N, ∀ id, N ≤ id → newH s d id = none
  | [], _, h => h
  | (a, c, b) :: r, _, h => by rw [newH]; exact newH_fin r (fin_set h _ _)
def dn (d : List (Nat × Nat × ABlk)) : List (Nat × Nat) := d.map fun p => (p.1, p.2.1)
theorem dn_fst (d : List (Nat × Nat × ABlk)) : (dn d).map (·.1) = d.map (·.1) := by simp [dn]
theorem KeepsR.new {s s1 : AHeap} {v : Value} (d : List (Nat × Nat × ABlk)) (hn : (d.map (·.1)).Nodup) (hn2 : (d.map (·.2.1)).Nodup) (hf : Fr s1 s (d.map (·.1)))
    (ha : AllR (renL (dn d)) s s1 (newH s d) d) (hv : nmR (fun i => (newH s d i).isSome = true) v) : KeepsR (renL (dn d)) s s1 (newH s d) v := by
  have hat : ∀ i c b, (i, c, b) ∈ d → renL (dn d) i = c := fun i c b h => renL_at (by rw [dn_fst]; exact hn) (List.mem_map.2 ⟨(i, c, b), h, rfl⟩)
  have hout : ∀ i, i ∉ d.map (·.1) → renL (dn d) i = i := fun i h => renL_out (by rw [dn_fst]; exact h)
  have hmem : ∀ i, i ∈ d.map (·.1) → ∃ c b, (i, c, b) ∈ d := fun i h => by
    obtain ⟨⟨i', c, b⟩, h1, rfl⟩ := List.mem_map.1 h; exact ⟨c, b, h1⟩
  have hold : ∀ i, (s i).isSome = true → renL (dn d) i = i := fun i hi => by
    by_cases hd : i ∈ d.map (·.1)
    · obtain ⟨c, b, h1⟩ := hmem i hd
      rw [hat i c b h1]
      rcases (ha.mem _ h1).2.2 with h | h
      · exact h.symm
      · have := h.1; simp only at this; rw [this] at hi; cases hi
    · exact hout i hd
  have hin : ∀ i, (newH s d i).isSome = true → (s i).isSome = true ∨ i ∈ d.map (·.1) := fun i hi => by
    by_cases hd : i ∈ d.map (·.1)
    · exact .inr hd
    · rw [newH_out hd] at hi; exact .inl hi
  -- a new block's name in the walk was free
  have hfree : ∀ x, x ∈ d.map (·.1) → (s x).isSome = false → s (renL (dn d) x) = none := fun x hx hs => by
    obtain ⟨c, b, h1⟩ := hmem x hx
    rw [hat x c b h1]
    rcases (ha.mem _ h1).2.2 with h | h
    · simp only at h; subst h; cases e : s x with
      | none => rfl
      | some b => rw [e] at hs; cases hs
    · exact h.2
  refine ⟨fun id hi => ⟨newH_some (.inl hi), hold id hi⟩, fun x y hx hy e => ?_, fun id b hb => ?_, fun h _ => newH_fin d h, hv⟩
  · cases hxs : (s x).isSome with
    | true =>
      cases hys : (s y).isSome with
      | true => rw [hold x hxs, hold y hys] at e; exact e
      | false =>
        have := hfree y ((hin y hy).resolve_left (by rw [hys]; exact Bool.false_ne_true)) hys
        rw [← e, hold x hxs] at this; rw [this] at hxs; cases hxs
    | false =>
      have hxd := (hin x hx).resolve_left (by rw [hxs]; exact Bool.false_ne_true)
      cases hys : (s y).isSome with
      | true =>
        have := hfree x hxd hxs
        rw [e, hold y hys] at this; rw [this] at hys; cases hys
      | false =>
        have hyd := (hin y hy).resolve_left (by rw [hys]; exact Bool.false_ne_true)
        obtain ⟨c, b, h1⟩ := hmem x hxd
        obtain ⟨c', b', h2⟩ := hmem y hyd
        rw [hat x c b h1, hat y c' b' h2] at e
        subst e
        have : ∀ (l : List (Nat × Nat × ABlk)), (l.map (·.2.1)).Nodup → (x, c, b) ∈ l → (y, c, b') ∈ l → x = y := by
          intro l
          induction l with
          | nil => intro _ h; cases h
          | cons q r ih =>
            intro hnd k1 k2
            simp only [List.map_cons, List.nodup_cons] at hnd
            rcases List.mem_cons.1 k1 with k1 | k1
            · rcases List.mem_cons.1 k2 with k2 | k2
              · rw [← k1] at k2; exact (Prod.mk.inj k2).1.symm
              · exact absurd (List.mem_map.2 ⟨_, k2, by rw [← k1]⟩) hnd.1
            · rcases List.mem_cons.1 k2 with k2 | k2
              · exact absurd (List.mem_map.2 ⟨_, k1, by rw [← k2]⟩) hnd.1
              · exact ih hnd.2 k1 k2
        exact this d hn2 h1 h2
  · by_cases hd : id ∈ d.map (·.1)
    · obtain ⟨c, b', h1, h2⟩ := newH_get (s := s) hd
      rw [h2] at hb; obtain rfl := Option.some.inj hb
      refine .inr ⟨?_, (ha.mem _ h1).2.1⟩
      rw [hat id c b' h1]; exact (ha.mem _ h1).1.eq
    · rw [newH_out hd] at hb
      exact .inl ⟨hb, hf id hd b hb⟩
theorem plA.nm {D : Nat → Prop} {x : Value} (h : plA x = true) : nmA D x := by
  unfold plA at h; split at h <;> first | trivial | cases h
theorem pl1.nm {D : Nat → Prop} {x : Value} (h : pl1 x = true) : nm1 D x := by
  unfold pl1 at h; split at h
  · simp only [Bool.and_eq_true, List.all_eq_true] at h
    exact ⟨fun x hx => plA.nm (h.1 x hx), fun x hx => plA.nm (h.2 x hx)⟩
  · cases x <;> simp only [nm1] <;> first | exact plA.nm h | (cases h; done) | skip
theorem nm_scal {D : Nat → Prop} {rw : Bool} {sz : Nat} {c : List Value} (h : c.all pl1 = true) : (ABlk.cells rw sz c).nm D := fun x hx => pl1.nm (List.all_eq_true.1 h x hx)
theorem plA.mp {π : Nat → Nat} {x : Value} (h : plA x = true) : mpA π x = x := by
  unfold plA at h; split at h <;> first | rfl | cases h
theorem map_plA {π : Nat → Nat} {l : List Value} (h : l.all plA = true) : l.map (mpA π) = l := by
  induction l with
  | nil => rfl
  | cons a l ih => simp only [List.all_cons, Bool.and_eq_true] at h; rw [List.map_cons, ih h.2, h.1 |> plA.mp]
theorem pl1.mp {π : Nat → Nat} {x : Value} (h : pl1 x = true) : mp1 π x = x := by
  cases x with
  | func f fs cs =>
    simp only [pl1, Bool.and_eq_true] at h
    show Value.func f (fs.map (mpA π)) (cs.map (mpA π)) = _
    congr 1
    · apply Array.ext'; rw [Array.toList_map, map_plA h.1]
    · apply Array.ext'; rw [Array.toList_map, map_plA h.2]
  | _ => (simp only [pl1] at h; simp only [mp1]; exact plA.mp h)
theorem map_pl1 {π : Nat → Nat} {l : List Value} (h : l.all pl1 = true) : l.map (mp1 π) = l := by
  induction l with
  | nil => rfl
  | cons a l ih => simp only [List.all_cons, Bool.and_eq_true] at h; rw [List.map_cons, ih h.2, h.1 |> pl1.mp]
theorem mp_pl {π : Nat → Nat} {rw : Bool} {sz : Nat} {c : List Value} (h : c.all pl1 = true) : (ABlk.cells rw sz c).mp π = .cells rw sz c := by
  show ABlk.cells rw sz (c.map (mp1 π)) = _; rw [map_pl1 h]
/-- One new block of plain cells, under its name at the end. -/
theorem KeepsR.new1 {s s1 : AHeap} {v : Value} {o o1 sz : Nat} {rw : Bool} {c : List Value} (ho : s o = none) (ho1 : s o1 = none) (hf : Fr s1 s []) (ha : At s1 o1 (.cells rw sz c)) (hc : c.all pl1 = true) (hv : nmR (fun i => i = o) v) :
    KeepsR (renL (dn [(o, o1, .cells rw sz c)])) s s1 (s.set o (.cells rw sz c)) v := by
  refine KeepsR.new [(o, o1, .cells rw sz c)] (by simp) (by simp) (fun i _ b hb => hf i (by simp) b hb) ⟨⟨by rw [mp_pl hc]; exact ha, nm_scal hc, .inr ⟨ho, ho1⟩⟩, trivial⟩ (nmR.imp (fun i e => ?_) hv)
  subst e; exact newH_some (.inr (by simp))
theorem renL_hit {o o1 : Nat} {b : ABlk} {r : List (Nat × Nat × ABlk)} : renL (dn ((o, o1, b) :: r)) o = o1 := if_pos rfl
theorem renL_miss {o o1 i : Nat} {b : ABlk} {r : List (Nat × Nat × ABlk)} (h : i ≠ o) : renL (dn ((o, o1, b) :: r)) i = renL (dn r) i := if_neg h
theorem Grew.fr {s s' s0 : AHeap} {on : Option Nat} {N : Nat} {b : ABlk} {ids : List Nat} (g : Grew s s' on N b) (h : Fr s s0 ids) (ho : ∀ q, on = some q → s0 q = none ∨ q ∈ ids) : Fr s' s0 ids := fun i hi c hc =>
  g.keep (fun e => by
    rcases ho i e with e | e
    · rw [e] at hc; cases hc
    · exact hi e) (h i hi c hc)
def Top (M : Nat) (s : AHeap) : Prop := ∀ id, M ≤ id → s id = none
theorem Top.free {M : Nat} {s : AHeap} (h : Top M s) {i : Nat} (hi : M ≤ i) : Free s i := h i hi
theorem Top.none {M : Nat} {s : AHeap} (h : Top M s) {i : Nat} (hi : M ≤ i) : s i = none := h i hi
theorem Top.set {M i : Nat} {s : AHeap} {b : ABlk} (h : Top M s) (hi : i < M) : Top M (s.set i b) := fun id hid => by
  rw [AHeap.set_other _ _ (by omega)]; exact h id hid
theorem Top.mono {M M' : Nat} {s : AHeap} (h : Top M s) (hi : M ≤ M') : Top M' s := fun id hid => h id (by omega)
theorem Top.new {M : Nat} {s : AHeap} {b : ABlk} (h : Top M s) : Top (M + 1) (s.set M b) := fun id hid => by
  rw [AHeap.set_other _ _ (by omega)]; exact h id (by omega)
theorem Top.lt {M : Nat} {s : AHeap} (h : Top M s) {i : Nat} {b : ABlk} (hi : At s i b) : i < M := by
  refine Nat.lt_of_not_le fun e => ?_
  have := h i e; rw [hi.eq] at this; cases this
theorem Grew.topN {s s' : AHeap} {on : Option Nat} {N : Nat} {b : ABlk} (g : Grew s s' on N b) (h : Top N s) (ho : ∀ q, on = some q → q < N) : Top (N + 1) s' := fun id hid => by
  rw [g.off id (fun e => by have := ho id e; omega) (by omega)]; exact h id (by omega)
attribute [irreducible] PK GK IK Rg Lt Get GetA
end Go.Proofs.Ytoiplbackllgfaa.Ab
