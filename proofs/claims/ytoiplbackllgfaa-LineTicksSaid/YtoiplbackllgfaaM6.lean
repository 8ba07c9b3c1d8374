/- texts of this claim, one behind the other: Ab5, AbX. -/
import Derived.Test.YtoiplbackllgfaaM5
import Derived.Laws.Concat
import Derived.WalkSpells

/- Arithmetic, comparisons, lengths, conversions, copy, maps. -/
namespace Go.Proofs.Ytoiplbackllgfaa.Ab
set_option linter.unusedVariables false
set_option linter.unusedSimpArgs false
set_option linter.unusedSectionVars false
open Go.RowKit

section
variable {P : Program} {W0 w : World} {ρ : Ren} {s : AHeap}

/-! ### plain values stand for themselves -/
theorem plA.eq {x y : Value} (h : VA ρ x y) (hp : plA x = true) : y = x := by
  cases h <;> first | rfl | simp [plA] at hp
theorem All2.eq_of {R : Value → Value → Prop} {p : Value → Bool} (h : ∀ x y, R x y → p x = true → y = x) : ∀ {l l' : List Value}, All2 R l l' → l.all p = true → l' = l
  | _, _, .nil, _ => rfl
  | _, _, .cons a r, hp => by
    simp only [List.all_cons, Bool.and_eq_true] at hp
    rw [h _ _ a hp.1, All2.eq_of h r hp.2]
theorem arr_eq {a b : Array Value} (h : a.toList = b.toList) : a = b := Array.ext' h
theorem pl1.eq {x y : Value} (h : V1 ρ x y) (hp : pl1 x = true) : y = x := by
  cases h with
  | a h => exact plA.eq h (by cases h <;> simpa [pl1] using hp)
  | fn h1 h2 =>
    simp only [pl1, Bool.and_eq_true] at hp
    rw [arr_eq (All2.eq_of (fun _ _ => plA.eq) h1 hp.1), arr_eq (All2.eq_of (fun _ _ => plA.eq) h2 hp.2)]
theorem plB.eq {x y : Value} (h : VB ρ x y) (hp : plB x = true) : y = x := by
  cases h with
  | v h => exact pl1.eq h (by cases h with | a h => cases h <;> simpa [plB] using hp | fn => simpa [plB] using hp)
  | agg h => rw [arr_eq (All2.eq_of (fun _ _ => pl1.eq) h hp)]
theorem plR.eq {x y : Value} (h : VR ρ x y) (hp : plR x = true) : y = x := by
  cases h with
  | v h => exact plB.eq h (by
      cases h with
      | v h => cases h with | a h => cases h <;> simpa [plR] using hp | fn => simpa [plR] using hp
      | agg => simpa [plR] using hp)
  | tup h => rw [arr_eq (All2.eq_of (fun _ _ => plB.eq) h hp)]

/-! ### operators -/
def aint (op : BinOp) (k : IntKind) (a : Int) (k' : IntKind) (b : Int) : Option Value :=
  match op with
  | .shl => if 0 ≤ b then some (.int k (k.wrap (a * 2 ^ (min b.toNat k.bits)))) else none
  | .shr => if 0 ≤ b then some (.int k (a.fdiv (2 ^ (min b.toNat k.bits)))) else none
  | .add => if k = k' then some (.int k (k.wrap (a + b))) else none
  | .sub => if k = k' then some (.int k (k.wrap (a - b))) else none
  | .mul => if k = k' then some (.int k (k.wrap (a * b))) else none
  | .quo => if k = k' ∧ b ≠ 0 then some (.int k (k.wrap (a.tdiv b))) else none
  | .rem => if k = k' ∧ b ≠ 0 then some (.int k (a.tmod b)) else none
  | .and => if k = k' then some (.int k (bits .and k a b)) else none
  | .or => if k = k' then some (.int k (bits .or k a b)) else none
  | .xor => if k = k' then some (.int k (bits .xor k a b)) else none
  | .andNot => if k = k' then some (.int k (bits .andNot k a b)) else none
  | .eql => if k = k' then some (.bool (decide (a = b))) else none
  | .neq => if k = k' then some (.bool (decide (a ≠ b))) else none
  | .lss => if k = k' then some (.bool (decide (a < b))) else none
  | .leq => if k = k' then some (.bool (decide (a ≤ b))) else none
  | .gtr => if k = k' then some (.bool (decide (a > b))) else none
  | .geq => if k = k' then some (.bool (decide (a ≥ b))) else none

theorem aint_sound {op k a k' b v t} (h : aint op k a k' b = some v) (w : World) : (binOp op t (.int k a) (.int k' b)).run P w = .ok v w ∧ plA v = true := by
  cases op <;> simp only [aint] at h
  case shl =>
    split at h
    · obtain rfl := Option.some.inj h
      rename_i hb
      have : ¬ b < 0 := by omega
      simp [binOp, Op.shift, this, plA]
    · cases h
  case shr =>
    split at h
    · obtain rfl := Option.some.inj h
      rename_i hb
      have : ¬ b < 0 := by omega
      simp [binOp, Op.shift, this, plA]
    · cases h
  case quo =>
    split at h
    · rename_i hb
      obtain rfl := Option.some.inj h
      obtain ⟨rfl, hb⟩ := hb
      simp [binOp, Op.intDiv, hb, plA]
    · cases h
  case rem =>
    split at h
    · rename_i hb
      obtain rfl := Option.some.inj h
      obtain ⟨rfl, hb⟩ := hb
      simp [binOp, Op.intDiv, hb, plA]
    · cases h
  all_goals first
    | cases h
    | (split at h
       · rename_i hk
         subst hk
         obtain rfl := Option.some.inj h
         first
         | (simp [binOp, Op.intArith, plA]; done)
         | (simp [binOp_and, binOp_or, binOp_xor, binOp_andNot, intBits_and, intBits_or, intBits_xor, intBits_andNot, plA]; done)
         | (simp [binOp, Op.intCmp, plA]; done)
         | (refine ⟨?_, rfl⟩; simp only [binOp, Op.intCmp]; rw [if_neg (by simp)]; simp only [Sem.run_pure]; congr 2; try (rw [Bool.eq_iff_iff]; simp))
       · cases h)

def abin (P : Program) (op : BinOp) (t : TypeId) (x y : Value) : Option Value :=
  match x, y with
  | .int k a, .int k' b => aint op k a k' b
  | .bool a, .bool b => match tdOf P t with
    | some td => match td.k, op with
      | .bool, .eql => some (.bool (a == b))
      | .bool, .neq => some (.bool (!(a == b)))
      | _, _ => none
    | none => none
  | .string a, .string b => match op with
    | .eql => some (.bool (decide (a.data.toList = b.data.toList)))
    | .neq => some (.bool (!decide (a.data.toList = b.data.toList)))
    | .add => if a.size + b.size ≤ 9223372036854775807 then some (.string (a ++ b)) else none
    | _ => none
  | .pointer a, .pointer none => match tdOf P t with
    | some td => match td.k, op with
      | .ptr _, .eql => some (.bool a.isNone)
      | .ptr _, .neq => some (.bool a.isSome)
      | _, _ => none
    | none => none
  | .slice a _ _, .slice none _ _ => match tdOf P t with
    | some td => match td.k, op with
      | .slice _, .eql => some (.bool a.isNone)
      | .slice _, .neq => some (.bool a.isSome)
      | _, _ => none
    | none => none
  | _, _ => none

theorem toList_bytes (a : ByteArray) : a.toList = a.data.toList := by
  unfold ByteArray.toList
  have key : ∀ (n i : Nat) (r : List UInt8), n = a.size - i → ByteArray.toList.loop a i r = r.reverse ++ a.data.toList.drop i := by
    intro n
    induction n with
    | zero =>
      intro i r h
      unfold ByteArray.toList.loop
      rw [if_neg (by omega)]
      rw [List.drop_of_length_le (by rw [Array.length_toList]; show a.size ≤ i; omega)]
      simp
    | succ n ih =>
      intro i r h
      unfold ByteArray.toList.loop
      have hi : i < a.size := by omega
      rw [if_pos hi, ih (i + 1) _ (by omega)]
      have hd : a.data.toList.drop i = a.get! i :: a.data.toList.drop (i + 1) := by
        rw [List.drop_eq_getElem_cons (by rw [Array.length_toList]; exact hi)]
        congr 1
        simp only [ByteArray.get!]
        rw [Array.getElem_toList]
        exact (getElem!_pos a.data i hi).symm
      rw [hd]
      simp
  simpa using key _ 0 [] rfl

theorem eqIn_ptr_nil (d : Nat) (w : World) (t e : TypeId) (p : Option Addr) (h : P.underlying t = some (.pointer e)) : (Op.equalIn (d + 1) t (.pointer p) (.pointer none)).run P w = .ok p.isNone w := by
  cases p <;> simp [Op.equalIn, run_underlying h]
theorem run_ptr_nil (w : World) (t e : TypeId) (p : Option Addr) (h : P.underlying t = some (.pointer e)) :
    (binOp .eql t (.pointer p) (.pointer none)).run P w = .ok (.bool p.isNone) w ∧ (binOp .neq t (.pointer p) (.pointer none)).run P w = .ok (.bool p.isSome) w := by
  have := eqIn_ptr_nil 9999 w t e p h
  constructor
  · show ((Op.equal t (.pointer p) (.pointer none)) >>= fun b => pure (.bool b) : Sem Value).run P w = _
    rw [Sem.run_bind]; unfold Op.equal Op.maxDepth; rw [this]; rfl
  · show ((Op.equal t (.pointer p) (.pointer none)) >>= fun b => pure (.bool (!b)) : Sem Value).run P w = _
    rw [Sem.run_bind]; unfold Op.equal Op.maxDepth; rw [this]; cases p <;> rfl
theorem eqIn_slc_nil (d : Nat) (w : World) (t e : TypeId) (p : Option Addr) (n c : Nat) (h : P.underlying t = some (.slice e)) : (Op.equalIn (d + 1) t (.slice p n c) (.slice none 0 0)).run P w = .ok p.isNone w := by
  cases p <;> simp [Op.equalIn, run_underlying h]
theorem run_slc_nil (w : World) (t e : TypeId) (p : Option Addr) (n c : Nat) (h : P.underlying t = some (.slice e)) :
    (binOp .eql t (.slice p n c) (.slice none 0 0)).run P w = .ok (.bool p.isNone) w ∧ (binOp .neq t (.slice p n c) (.slice none 0 0)).run P w = .ok (.bool p.isSome) w := by
  have := eqIn_slc_nil 9999 w t e p n c h
  constructor
  · show ((Op.equal t (.slice p n c) (.slice none 0 0)) >>= fun b => pure (.bool b) : Sem Value).run P w = _
    rw [Sem.run_bind]; unfold Op.equal Op.maxDepth; rw [this]; rfl
  · show ((Op.equal t (.slice p n c) (.slice none 0 0)) >>= fun b => pure (.bool (!b)) : Sem Value).run P w = _
    rw [Sem.run_bind]; unfold Op.equal Op.maxDepth; rw [this]; cases p <;> rfl

/-- The machine's operator, with its guard. -/
def ABin (P : Program) (op : BinOp) (t : TypeId) (x y : Operand) (vx vy v : Value) : Prop :=
  abin P op t vx vy = some v ∨ (plB vx = true ∧ plB vy = true ∧ plB v = true ∧ ∀ w : World, ((do eqGuard op t x y vx vy; binOp op t vx vy) : Sem Value).run P w = .ok v w)

theorem abin_sound {op t x y vx vy vx' vy' v} (hx : VR ρ vx vx') (hy : VR ρ vy vy') (h : ABin P op t x y vx vy v) :
    ∃ v', ((do eqGuard op t x y vx' vy'; binOp op t vx' vy') : Sem Value).run P w = .ok v' w ∧ VR ρ v v' := by
  rcases h with h | ⟨p1, p2, p3, h⟩
  · unfold abin at h
    split at h
    · obtain rfl := hx.int
      obtain rfl := hy.int
      obtain ⟨e1, e2⟩ := aint_sound (P := P) (t := t) h w
      exact ⟨v, by simp [eqGuard_at_int, e1], .atom (plA.self ρ e2)⟩
    · obtain rfl := hx.bool
      obtain rfl := hy.bool
      split at h
      case h_2 => cases h
      rename_i td ht
      split at h
      · rename_i hk
        obtain rfl := Option.some.inj h
        exact ⟨_, by simp [eqGuard_at_bool, run_eql_bool w _ _ _ (td_bool ht hk)], .atom (.bool _)⟩
      · rename_i hk
        obtain rfl := Option.some.inj h
        exact ⟨_, by simp [eqGuard_at_bool, run_neq_bool w _ _ _ (td_bool ht hk)], .atom (.bool _)⟩
      · cases h
    · obtain rfl := hx.str
      obtain rfl := hy.str
      split at h
      · obtain rfl := Option.some.inj h
        refine ⟨_, ?_, .atom (.bool _)⟩
        simp only [eqGuard_at_string, pure_bind, binOp, Op.stringOp, Sem.run_pure, toList_bytes]
        congr 2
        rw [Bool.eq_iff_iff]; simp
      · obtain rfl := Option.some.inj h
        refine ⟨_, ?_, .atom (.bool _)⟩
        simp only [eqGuard_at_string, pure_bind, binOp, Op.stringOp, Sem.run_pure, toList_bytes]
        congr 2
        rw [Bool.eq_iff_iff]; simp
      · split at h
        · rename_i hs
          obtain rfl := Option.some.inj h
          refine ⟨_, ?_, .atom (.str _)⟩
          simp only [eqGuard_at_string, pure_bind, binOp]
          exact run_string_add_sum _ _ _ hs
        · cases h
      · cases h
    · obtain rfl := hy.nilp
      split at h
      case h_2 => cases h
      rename_i a _ td ht
      split at h
      · rename_i e hk
        obtain rfl := Option.some.inj h
        cases a with
        | none => obtain rfl := hx.nilp; exact ⟨_, by simp only [eqGuard_at_pointer, pure_bind]; exact (run_ptr_nil w t e none (td_ptr ht hk)).1, .atom (.bool _)⟩
        | some a => obtain ⟨l, _, _, rfl⟩ := hx.ptr; exact ⟨_, by simp only [eqGuard_at_pointer, pure_bind]; exact (run_ptr_nil w t e (some _) (td_ptr ht hk)).1, .atom (.bool _)⟩
      · rename_i e hk
        obtain rfl := Option.some.inj h
        cases a with
        | none => obtain rfl := hx.nilp; exact ⟨_, by simp only [eqGuard_at_pointer, pure_bind]; exact (run_ptr_nil w t e none (td_ptr ht hk)).2, .atom (.bool _)⟩
        | some a => obtain ⟨l, _, _, rfl⟩ := hx.ptr; exact ⟨_, by simp only [eqGuard_at_pointer, pure_bind]; exact (run_ptr_nil w t e (some _) (td_ptr ht hk)).2, .atom (.bool _)⟩
      · cases h
    · obtain ⟨-, -, rfl⟩ := hy.nils
      split at h
      case h_2 => cases h
      rename_i a n c m k _ td ht
      split at h
      · rename_i e hk
        obtain rfl := Option.some.inj h
        cases a with
        | none => obtain ⟨_, _, rfl⟩ := hx.nils; exact ⟨_, by simp only [eqGuard_at_slice, pure_bind]; exact (run_slc_nil w t e none 0 0 (td_slice ht hk)).1, .atom (.bool _)⟩
        | some a => obtain ⟨l, A, cap, _, _, _, _, _, rfl⟩ := hx.slice; exact ⟨_, by simp only [eqGuard_at_slice, pure_bind]; exact (run_slc_nil w t e (some _) _ _ (td_slice ht hk)).1, .atom (.bool _)⟩
      · rename_i e hk
        obtain rfl := Option.some.inj h
        cases a with
        | none => obtain ⟨_, _, rfl⟩ := hx.nils; exact ⟨_, by simp only [eqGuard_at_slice, pure_bind]; exact (run_slc_nil w t e none 0 0 (td_slice ht hk)).2, .atom (.bool _)⟩
        | some a => obtain ⟨l, A, cap, _, _, _, _, _, rfl⟩ := hx.slice; exact ⟨_, by simp only [eqGuard_at_slice, pure_bind]; exact (run_slc_nil w t e (some _) _ _ (td_slice ht hk)).2, .atom (.bool _)⟩
      · cases h
    · cases h
  · have pl : ∀ {z : Value}, plB z = true → plR z = true := fun {z} hz => by cases z <;> first | simpa [plR] using hz | simp [plB, pl1, plA] at hz
    obtain rfl := plR.eq hx (pl p1)
    obtain rfl := plR.eq hy (pl p2)
    exact ⟨v, h w, .v (plB.self ρ p3)⟩

def aun (op : UnOp) (x : Value) : Option Value :=
  match op, x with
  | .not, .bool b => some (.bool (!b))
  | .neg, .int k n => some (.int k (k.wrap (0 - n)))
  | .xor, .int k n => some (.int k (bits .xor k (if k.signed then -1 else k.max) n))
  | _, _ => none
theorem aun_sound {op x x' v} (hx : VR ρ x x') (h : aun op x = some v) : ∃ v', (Op.unary op x').run P w = .ok v' w ∧ VR ρ v v' := by
  unfold aun at h
  split at h
  · obtain rfl := Option.some.inj h; obtain rfl := hx.bool; exact ⟨_, rfl, .atom (.bool _)⟩
  · obtain rfl := Option.some.inj h; obtain rfl := hx.int; exact ⟨_, rfl, .atom (.int _ _)⟩
  · obtain rfl := Option.some.inj h; obtain rfl := hx.int; exact ⟨_, rfl, .atom (.int _ _)⟩
  · cases h

/-! ### lengths -/
def alen (P : Program) (t : TypeId) (s : AHeap) (x : Value) : Option Value :=
  match tdOf P t with
  | some td => match td.k, x with
    | .str, .string b => some (.int .i64 b.size)
    | .slice _, .slice _ n _ => some (.int .i64 n)
    | .array n _, _ => some (.int .i64 n)
    | .map .., .map none => some (.int .i64 0)
    | .map .., .map (some r) => match s r with
      | some (.map es) => some (.int .i64 es.length)
      | _ => none
    | _, _ => none
  | none => none
theorem len_sound (hS : Sim W0 ρ s w) {t ts ty x x' v} (ht : ts[0]? = some t) (hx : VR ρ x x') (h : alen P t s x = some v) :
    ∃ v', (Builtin.len_ ts ty #[x']).run P w = .ok v' w ∧ VR ρ v v' := by
  unfold alen at h
  split at h
  case h_2 => cases h
  rename_i td htd
  split at h
  · rename_i b hk; obtain rfl := Option.some.inj h; obtain rfl := hx.str
    exact ⟨_, by simp [Builtin.len_, ht, run_underlying (td_str htd hk), goInt], .atom (.int _ _)⟩
  · rename_i e a n c hk; obtain rfl := Option.some.inj h
    cases a with
    | none => obtain ⟨rfl, rfl, rfl⟩ := hx.nils; exact ⟨_, by simp [Builtin.len_, ht, run_underlying (td_slice htd hk), goInt], .atom (.int _ _)⟩
    | some a => obtain ⟨l, A, cap, _, _, _, _, _, rfl⟩ := hx.slice; exact ⟨_, by simp [Builtin.len_, ht, run_underlying (td_slice htd hk), goInt], .atom (.int _ _)⟩
  · rename_i n e hk; obtain rfl := Option.some.inj h
    exact ⟨_, by simp [Builtin.len_, ht, run_underlying (td_array htd hk), goInt], .atom (.int _ _)⟩
  · rename_i k e hk; obtain rfl := Option.some.inj h; obtain rfl := hx.nilm
    exact ⟨_, by simp [Builtin.len_, ht, run_underlying (td_map htd hk), goInt], .atom (.int _ _)⟩
  · rename_i k e r hk
    split at h
    case h_2 => cases h
    rename_i es hs
    obtain rfl := Option.some.inj h
    obtain ⟨l, hl, rfl⟩ := hx.map
    obtain ⟨l', hl', hr⟩ := hS.rep _ _ hs
    obtain rfl : l = l' := by rw [hl] at hl'; exact Option.some.inj hl'
    obtain ⟨_, ents, clk, he, h2⟩ := hr
    have hlen := h2.length
    refine ⟨_, ?_, .atom (.int _ _)⟩
    simp [Builtin.len_, ht, run_underlying (td_map htd hk), goInt, getObj, Sem.run, he, hlen]
  · cases h

/-! ### min, max -/
def amm (mx : Bool) : List Value → Option Value
  | [.int k a, .int _ b] => some (.int k (if mx then (if b > a then b else a) else (if b < a then b else a)))
  | [.int k a, .int _ b, .int _ c] => 
    let m := if mx then (if b > a then b else a) else (if b < a then b else a)
    some (.int k (if mx then (if c > m then c else m) else (if c < m then c else m)))
  | _ => none
theorem All2.ints {l l' : List Value} (h : All2 (VR ρ) l l') (hi : ∀ x ∈ l, ∃ k n, x = .int k n) : l' = l := by
  induction h with
  | nil => rfl
  | cons a r ih =>
    obtain ⟨k, n, rfl⟩ := hi _ (List.mem_cons_self ..)
    rw [a.int, ih fun x hx => hi x (by simp [hx])]
theorem amm_sound {mx l l' v ts ty} (h2 : All2 (VR ρ) l l') (h : amm mx l = some v) : (if mx then Builtin.max_ ts ty l'.toArray else Builtin.min_ ts ty l'.toArray).run P w = .ok v w ∧ plA v = true := by
  unfold amm at h
  split at h
  · obtain rfl := Option.some.inj h
    obtain rfl := h2.ints (by simp)
    cases mx <;> simp [Builtin.max_, Builtin.min_, Builtin.max2, Builtin.min2, plA]
  · obtain rfl := Option.some.inj h
    obtain rfl := h2.ints (by simp)
    cases mx <;> simp [Builtin.max_, Builtin.min_, Builtin.max2, Builtin.min2, plA]
  · cases h

/-! ### conversions -/
def u8s : List Value → Option (List Int)
  | [] => some []
  | .int .u8 n :: r => (u8s r).map (n :: ·)
  | _ :: _ => none
theorem u8s_map : ∀ {l : List Value} {ns}, u8s l = some ns → l = ns.map (Value.int .u8)
  | [], ns, h => by obtain rfl := Option.some.inj h; rfl
  | v :: r, ns, h => by
    unfold u8s at h
    split at h
    · rename_i heq; cases heq
    · rename_i n r' heq
      obtain ⟨rfl, rfl⟩ := List.cons.inj heq
      cases hr : u8s r with
      | none => rw [hr] at h; cases h
      | some m => rw [hr] at h; obtain rfl := Option.some.inj h; rw [u8s_map hr]; rfl
    · cases h
def strOf (ns : List Int) : ByteArray := ⟨(ns.map fun n => UInt8.ofNat n.toNat).toArray⟩
theorem foldl_push : ∀ (ns : List Int) (s : ByteArray), ns.foldl (fun r n => r.push (UInt8.ofNat n.toNat)) s = ⟨s.data ++ (ns.map fun n => UInt8.ofNat n.toNat).toArray⟩
  | [], s => by cases s; simp
  | n :: ns, s => by
    rw [List.foldl_cons, foldl_push ns]
    simp [ByteArray.push]

def aconv (P : Program) (src dst : TypeId) (s : AHeap) (x : Value) : Option Value :=
  match tdOf P src, tdOf P dst with
  | some ts, some td => match td.k, x with
    | .int k, .int _ n => match ts.k with
      | .int _ => some (.int k (k.wrap n))
      | _ => none
    | .str, .string b => match ts.k with
      | .str => some (.string b)
      | _ => none
    | .str, v => match ts.k with
      | .slice e => match tdOf P e with
        | some te => match te.k, srcCells s 1 v with
          | .int .u8, some (_, xs) => match v with
            | .slice _ _ _ => (u8s xs).map fun ns => .string (strOf ns)
            | _ => none
          | _, _ => none
        | none => none
      | _ => none
    | _, _ => none
  | _, _ => none

theorem conv_sound (hS : Sim W0 ρ s w) {src dst x x' v} (hx : VR ρ x x') (h : aconv P src dst s x = some v) : ∃ v', (convert src dst x').run P w = .ok v' w ∧ VR ρ v v' := by
  unfold aconv at h
  split at h
  case h_2 => cases h
  rename_i ts td hts htd
  split at h
  · rename_i k k' n hk
    split at h
    case h_2 => cases h
    rename_i k2 hk2
    obtain rfl := Option.some.inj h
    obtain rfl := hx.int
    exact ⟨_, by simp [convert, run_underlying (td_int hts hk2), run_underlying (td_int htd hk), Conv.intToInt], .atom (.int _ _)⟩
  · rename_i b hk
    split at h
    case h_2 => cases h
    rename_i hk2
    obtain rfl := Option.some.inj h
    obtain rfl := hx.str
    exact ⟨_, by simp [convert, run_underlying (td_str hts hk2), run_underlying (td_str htd hk)], .atom (.str _)⟩
  · rename_i hk hns
    split at h
    case h_2 => cases h
    rename_i e hk2
    split at h
    case h_2 => cases h
    rename_i te hte
    split at h
    case h_2 => cases h
    rename_i n xs hu hsrc
    split at h
    case h_2 => cases h
    rename_i a m c
    cases hns' : u8s xs with
    | none => rw [hns'] at h; cases h
    | some ns =>
    rw [hns'] at h
    obtain rfl := Option.some.inj h
    have hxs := u8s_map hns'
    obtain ⟨hl, ys, hys, h2⟩ := src_sound (P := P) hS hx hsrc
    have hys' : ys = ns.map (Value.int .u8) := by
      rw [← hxs]
      exact All2.eq_of (p := pl1) (fun _ _ => pl1.eq) h2 (by rw [hxs]; simp [pl1, plA])
    cases a with
    | none =>
      obtain ⟨_, _, rfl⟩ := hx.nils
      refine ⟨_, by rw [run_convert_bytes_string w src dst e _ _ _ (td_slice hts hk2) (td_int hte hu) (td_str htd hk)]; exact rfl, ?_⟩
      have : ns = [] := by
        simp [srcCells] at hsrc
        obtain ⟨_, rfl⟩ := hsrc
        simpa [u8s] using hns'.symm
      subst this
      exact .atom (.str _)
    | some a =>
      obtain ⟨l, A, cap, _, _, _, _, _, rfl⟩ := hx.slice
      refine ⟨.string (strOf ns), ?_, .atom (.str _)⟩
      rw [run_convert_bytes_string w src dst e _ _ _ (td_slice hts hk2) (td_int hte hu) (td_str htd hk)]
      have hn : n = m := by
        have : (Builtin.lenOf (.slice (some A) m cap)).run P w = .ok m w := rfl
        rw [this] at hl; cases hl; rfl
      subst hn
      simp only [Builtin.firstCells, Nat.mul_one] at hys
      rw [hys'] at hys
      rw [run_bytesToString w A n cap ns hys, foldl_push]
      simp [strOf]
  · cases h

/-! ### copy and clear -/
def acopy (P : Program) (t : TypeId) (s : AHeap) (d x : Value) : Option (Value × AHeap) :=
  match tdOf P t with
  | some td => match td.k with
    | .slice e => match tdOf P e with
      | some te => match srcCells s te.size x, d with
        | some (m, xs), .slice none _ _ => if xs.length = m * te.size then some (.int .i64 0, s) else none
        | some (m, xs), .slice (some a) n _ =>
          if min m n = 0 then some (.int .i64 0, s) else
          match s a.block with
          | some (.cells true sz cs) => if sz = te.size ∧ a.off + n * sz ≤ cs.length ∧ xs.length = m * te.size then
              some (.int .i64 ((min m n : Nat) : Int), s.set a.block (.cells true sz (splice cs a.off (xs.take (min m n * te.size))))) else none
          | _ => none
        | _, _ => none
      | none => none
    | _ => none
  | none => none
end
end Go.Proofs.Ytoiplbackllgfaa.Ab

/- More operations: clear, cap, the mark of a constant's bytes. -/
namespace Go.Proofs.Ytoiplbackllgfaa.Ab
set_option linter.unusedVariables false
set_option linter.unusedSimpArgs false
set_option linter.unusedSectionVars false
open Go.RowKit

section
variable {P : Program} {W0 w : World} {ρ : Ren} {s : AHeap}

/-! ### clear -/
def aclear (P : Program) (t : TypeId) (s : AHeap) (x : Value) : Option AHeap :=
  match tdOf P t, x with
  | some td, .slice none _ _ => match td.k with
    | .slice _ => some s
    | _ => none
  | some td, .slice (some a) n _ => match td.k with
    | .slice e => if n = 0 then some s else match tdOf P e, s a.block with
      | some te, some (.cells true sz c) => if sz = te.size ∧ te.zero.cells.size = te.size ∧ a.off + n * sz ≤ c.length ∧ plB te.zero = true then
          some (s.set a.block (.cells true sz (splice c a.off (zrep n te.zero.cells.toList)))) else none
      | _, _ => none
    | _ => none
  | _, _ => none

theorem clear_sound (hS : Sim W0 ρ s w) {t ty x x' s'} (hx : VR ρ x x') (h : aclear P t s x = some s') :
    ∃ w', (Builtin.clear_ #[t] ty #[x']).run P w = .ok (.tuple #[]) w' ∧ Sim W0 ρ s' w' := by
  unfold aclear at h
  split at h
  · rename_i td n c ht
    split at h
    case h_2 => cases h
    rename_i e hk
    obtain rfl := Option.some.inj h
    obtain ⟨rfl, rfl, rfl⟩ := hx.nils
    exact ⟨w, by simp [Builtin.clear_, run_underlying (td_slice ht hk)], hS⟩
  · rename_i td a n c ht
    split at h
    case h_2 => cases h
    rename_i e hk
    obtain ⟨l, A, cap, hsp, hl, hle, hK, hA, rfl⟩ := hx.slice
    split at h
    · rename_i hn
      subst hn
      obtain rfl := Option.some.inj h
      exact ⟨w, by simp [Builtin.clear_, run_underlying (td_slice ht hk)], hS⟩
    · rename_i hn
      split at h
      case h_2 => cases h
      rename_i te sz cs hte hs
      split at h
      case isFalse => cases h
      rename_i hc
      obtain ⟨hsz, hz, hcl, hpl⟩ := hc
      obtain rfl := Option.some.inj h
      have hA' := hA.resolve_left (by omega)
      subst hA'
      have hzz : All2 (V1 ρ) te.zero.cells.toList te.zero.cells.toList := (plB.self ρ hpl).cells
      have h2 := all2_zrep hzz n
      obtain ⟨f1, f2, f3⟩ := Sim.storeMany hl _ _ cs a.off s w hS hs h2 (by rw [zrep_length, Array.length_toList, hz, ← hsz]; exact hcl)
      have hst := run_storeCells_cells (P := P) l.B (l.o + a.off) (zrep n te.zero.cells.toList) 0 w (by simpa using f1) (by simpa using f2) (All2.oneCell h2)
      rw [Nat.add_zero] at hst
      refine ⟨_, ?_, f3⟩
      have hzc : (Builtin.zeroCells te.zero.cells n).toList = zrep n te.zero.cells.toList := zeroCells_zrep _ _
      obtain ⟨m, rfl⟩ : ∃ m, n = m + 1 := ⟨n - 1, by omega⟩
      simp [Builtin.clear_, run_underlying (td_slice ht hk), td_zero hte, hzc]
      rw [show Sem.run P (storeCells { block := l.B, off := l.o + a.off } (zrep (m + 1) te.zero.cells.toList)) w = _ from by simpa using hst]; rfl
  · cases h

/-! ### cap -/
def acap (P : Program) (t : TypeId) (x : Value) : Option Value :=
  match tdOf P t, x with
  | some td, .slice none _ _ => match td.k with
    | .slice _ => some (.int .i64 0)
    | _ => none
  | some td, .slice (some a) _ c => match td.k with
    | .slice _ => if a.spot.isSome then some (.int .i64 c) else none
    | _ => none
  | _, _ => none
theorem cap_sound {t ty x x' v} (hx : VR ρ x x') (h : acap P t x = some v) : ∃ v', (Builtin.cap_ #[t] ty #[x']).run P w = .ok v' w ∧ VR ρ v v' := by
  unfold acap at h
  split at h
  · rename_i td n c ht
    split at h
    case h_2 => cases h
    rename_i e hk
    obtain rfl := Option.some.inj h
    obtain ⟨rfl, rfl, rfl⟩ := hx.nils
    exact ⟨_, by simp [Builtin.cap_, run_underlying (td_slice ht hk), goInt], .atom (.int _ _)⟩
  · rename_i td a n c ht
    split at h
    case h_2 => cases h
    rename_i e hk
    split at h
    case isFalse => cases h
    rename_i hsp
    obtain rfl := Option.some.inj h
    obtain ⟨l, A, cap, hsp', hl, hle, hK, hA, rfl⟩ := hx.slice
    have : cap = c := hsp'.2.resolve_left (fun e => by rw [e] at hsp; cases hsp)
    subst this
    exact ⟨_, by simp [Builtin.cap_, run_underlying (td_slice ht hk), goInt], .atom (.int _ _)⟩
  · cases h

/-! ### '[]byte' of a constant: its row is marked, and from then on only read -/
theorem cell?_freeze (w : World) (a p : Addr) (n : Nat) : (w.freeze a n).cell? p = w.cell? p := by
  unfold World.freeze
  split
  · rfl
  · unfold World.cell?
    simp only [Array.getElem?_modify]
    by_cases h : a.block = p.block
    · rw [if_pos h]
      cases w.heap[p.block]? with
      | none => rfl
      | some o => cases o <;> rfl
    · rw [if_neg h]
theorem heap_freeze (w : World) (a : Addr) (n k : Nat) (h : k ≠ a.block) : (w.freeze a n).heap[k]? = w.heap[k]? := by
  unfold World.freeze
  split
  · rfl
  · simp only [Array.getElem?_modify]
    rw [if_neg (fun e => h e.symm)]
theorem below_freeze {B : Nat} {a w : World} (h : Below B a w) {p : Addr} (hp : B ≤ p.block) (n : Nat) : Below B a (w.freeze p n) := by
  refine h.trans ?_
  refine ⟨by unfold World.freeze; split <;> rfl, by unfold World.freeze; split <;> rfl, by unfold World.freeze; split <;> rfl, by unfold World.freeze; split <;> simp, fun k hk => heap_freeze w p n k (by omega)⟩
theorem Sim.freeze (hS : Sim W0 ρ s w) {id sz : Nat} {c : List Value} {l : Loc} (hs : s id = some (.cells true sz c)) (hl : ρ id = some l) (o n : Nat) : Sim W0 ρ (s.set id (.cells false sz c)) (w.freeze ⟨l.B, o, none⟩ n) := by
  obtain ⟨l0, hl0, hr0⟩ := hS.rep id _ hs
  obtain rfl : l = l0 := by rw [hl] at hl0; exact Option.some.inj hl0
  refine ⟨below_freeze hS.below (hr0.2.2 rfl).1 n, fun id' b' hb => ?_, fun id' l' hl' => ?_, ?_, fin_set hS.fin _ _⟩
  · by_cases h : id' = id
    · subst h; rw [AHeap.set_same] at hb; obtain rfl := Option.some.inj hb
      refine ⟨l, hl, hr0.1, fun i v hv => ?_, fun e => by cases e⟩
      obtain ⟨v', e1, e2⟩ := hr0.2.1 i v hv
      exact ⟨v', by rw [cell?_freeze]; exact e1, e2⟩
    · rw [AHeap.set_other _ _ h] at hb
      obtain ⟨l', hl', hr'⟩ := hS.rep id' b' hb
      refine ⟨l', hl', ?_⟩
      cases hlv : b'.live with
      | false => exact hr'.of_idle hlv
      | true =>
        have hne := hS.apart id id' _ _ l l' (fun e => h e.symm) hs hb rfl hlv hl hl'
        exact hr'.same (heap_freeze _ _ _ _ (fun e => hne e.symm)) (by unfold World.freeze; split <;> simp)
  · by_cases h : id' = id
    · subst h; rw [AHeap.set_same]; rfl
    · rw [AHeap.set_other _ _ h]; exact hS.dom id' l' hl'
  · intro x y bx bY lx ly hne hx hy ho hlv hlx hly
    by_cases h : x = id
    · subst h; rw [AHeap.set_same] at hx; obtain rfl := Option.some.inj hx; cases ho
    · rw [AHeap.set_other _ _ h] at hx
      by_cases h' : y = id
      · subst h'; exact hS.apart x y bx _ lx ly hne hx hs ho rfl hlx hly
      · rw [AHeap.set_other _ _ h'] at hy
        exact hS.apart x y bx bY lx ly hne hx hy ho hlv hlx hly
/-- The mark. -/
def amark (P : Program) (src dst : TypeId) (s : AHeap) (x : Value) : Option AHeap :=
  match tdOf P src, x with
  | some td, .slice (some a) n _ => match td.k with
    | .slice e => match tdOf P e, s a.block with
      | some te, some (.cells true sz c) => match te.k with
        | .int .u8 => if src = dst ∧ n ≠ 0 then some (s.set a.block (.cells false sz c)) else none
        | _ => none
      | _, _ => none
    | _ => none
  | _, _ => none
theorem mark_sound (hS : Sim W0 ρ s w) {src dst x x' s'} (hx : VR ρ x x') (h : amark P src dst s x = some s') : ∃ w', (convert src dst x').run P w = .ok x' w' ∧ Sim W0 ρ s' w' := by
  unfold amark at h
  split at h
  case h_2 => cases h
  rename_i td a n c ht
  split at h
  case h_2 => cases h
  rename_i e hk
  split at h
  case h_2 => cases h
  rename_i te sz cs hte hs
  split at h
  case h_2 => cases h
  rename_i hu8
  split at h
  case isFalse => cases h
  rename_i hc
  obtain ⟨rfl, hn⟩ := hc
  obtain rfl := Option.some.inj h
  obtain ⟨l, A, cap, hsp, hl, hle, hK, hA, rfl⟩ := hx.slice
  have hA' := hA.resolve_left (by omega)
  subst hA'
  cases hsh : w.shape? l.B with
  | none =>
    refine ⟨w, ?_, hS.freeze hs hl 0 0⟩
    simp [convert, run_underlying (td_slice ht hk), run_underlying (td_int hte hu8), markStringish, hsh]
  | some p =>
    refine ⟨w.freeze ⟨l.B, p.2, none⟩ 1, ?_, hS.freeze hs hl _ _⟩
    simp [convert, run_underlying (td_slice ht hk), run_underlying (td_int hte hu8), markStringish, hsh]
end
end Go.Proofs.Ytoiplbackllgfaa.Ab
