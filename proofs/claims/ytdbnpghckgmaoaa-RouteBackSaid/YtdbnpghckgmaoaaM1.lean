/- texts of this claim, one behind the other: Ab1, JoinPlain, TreePlain, Ab2, JoinInv, TreeBfs, Ab3, TreeJoin, TreeWay, Ab4, ViewPlain, Ab5, AbX, AbM. -/
import Derived.Orders
import Derived.Below
import Derived.Laws.Append
import Derived.Laws.Entries
import Derived.Laws.NewBlocks
import Derived.Laws.IdiomCopy
import Derived.Laws.Unary
import Derived.Laws.Build
import Derived.Laws.AppendOwn
import Derived.Laws.BytesString
import Derived.Laws.StructEq
import Derived.IntWalk
import Derived.Laws.MakeOwn
import Derived.Laws.Concat
import Derived.WalkSpells
import Derived.MapKept

/- The abstract memory: named blocks, values over them, and how a world of the machine stands to them. -/
namespace Go.Proofs.Ytdbnpghckgmaoaa.Ab
set_option linter.unusedVariables false
set_option linter.unusedSimpArgs false
set_option linter.unusedSectionVars false
open Go.RowKit

structure Loc where
  B : Nat
  o : Nat
  K : Nat
  sz : Nat

abbrev Ren := Nat → Option Loc
def RLe (ρ ρ' : Ren) : Prop := ∀ id l, ρ id = some l → ρ' id = some l
theorem RLe.refl (ρ : Ren) : RLe ρ ρ := fun _ _ h => h
theorem RLe.trans {a b c : Ren} (h : RLe a b) (h' : RLe b c) : RLe a c := fun id l e => h' id l (h id l e)

inductive All2 {α β : Type} (R : α → β → Prop) : List α → List β → Prop
  | nil : All2 R [] []
  | cons {a b l l'} : R a b → All2 R l l' → All2 R (a :: l) (b :: l')

namespace All2
variable {α β : Type} {R S : α → β → Prop}
theorem mono (h : ∀ a b, R a b → S a b) : ∀ {l l'}, All2 R l l' → All2 S l l'
  | _, _, .nil => .nil
  | _, _, .cons x r => .cons (h _ _ x) (mono h r)
theorem length : ∀ {l : List α} {l' : List β}, All2 R l l' → l.length = l'.length
  | _, _, .nil => rfl
  | _, _, .cons _ r => by simp [r.length]
theorem get : ∀ {l : List α} {l' : List β}, All2 R l l' → ∀ {i : Nat} {a : α}, l[i]? = some a → ∃ b, l'[i]? = some b ∧ R a b
  | _, _, .nil, i, a, h => by simp at h
  | _, _, .cons x r, 0, a, h => by simp at h; subst h; exact ⟨_, by simp, x⟩
  | _, _, .cons x r, i + 1, a, h => by simp at h; simpa using r.get h
theorem of_get : ∀ {l : List α} {l' : List β}, l.length = l'.length → (∀ (i : Nat) a b, l[i]? = some a → l'[i]? = some b → R a b) → All2 R l l'
  | [], [], _, _ => .nil
  | a :: l, b :: l', h, g => .cons (g 0 a b (by simp) (by simp)) (of_get (by simpa using h) fun i x y hx hy => g (i + 1) x y (by simpa using hx) (by simpa using hy))
theorem append : ∀ {l m : List α} {l' m' : List β}, All2 R l l' → All2 R m m' → All2 R (l ++ m) (l' ++ m')
  | _, _, _, _, .nil, h => h
  | _, _, _, _, .cons x r, h => .cons x (r.append h)
theorem set : ∀ {l : List α} {l' : List β}, All2 R l l' → ∀ (i : Nat) {a b}, R a b → All2 R (l.set i a) (l'.set i b)
  | _, _, .nil, _, _, _, _ => .nil
  | _, _, .cons x r, 0, _, _, h => .cons h r
  | _, _, .cons x r, i + 1, _, _, h => .cons x (r.set i h)
theorem drop : ∀ {l : List α} {l' : List β}, All2 R l l' → ∀ (i : Nat), All2 R (l.drop i) (l'.drop i)
  | _, _, h, 0 => h
  | _, _, .nil, _ + 1 => .nil
  | _, _, .cons _ r, i + 1 => by simpa using r.drop i
theorem take : ∀ {l : List α} {l' : List β}, All2 R l l' → ∀ (i : Nat), All2 R (l.take i) (l'.take i)
  | _, _, _, 0 => .nil
  | _, _, .nil, _ + 1 => .nil
  | _, _, .cons x r, i + 1 => .cons x (r.take i)
theorem replicate (n : Nat) {a : α} {b : β} (h : R a b) : All2 R (List.replicate n a) (List.replicate n b) := by
  induction n with
  | zero => exact .nil
  | succ n ih => exact .cons h ih
theorem map_left {γ : Type} {f : γ → α} : ∀ {l : List γ} {l' : List β}, All2 (fun x y => R (f x) y) l l' → All2 R (l.map f) l'
  | _, _, .nil => .nil
  | _, _, .cons x r => .cons x (map_left r)
end All2

/-- One cell's value that is no function. -/
inductive VA (ρ : Ren) : Value → Value → Prop
  | bool (b) : VA ρ (.bool b) (.bool b)
  | int (k n) : VA ρ (.int k n) (.int k n)
  | str (s) : VA ρ (.string s) (.string s)
  | nilp : VA ρ (.pointer none) (.pointer none)
  | ptr {id off l} (h : ρ id = some l) : VA ρ (.pointer (some ⟨id, off, none⟩)) (.pointer (some ⟨l.B, l.o + off, none⟩))
  | nils : VA ρ (.slice none 0 0) (.slice none 0 0)
  | sl {id off sp len c l A cap} (h : ρ id = some l) (hl : len ≤ cap) (hk : off + cap * l.sz ≤ l.K) (ha : cap = 0 ∨ A = ⟨l.B, l.o + off, none⟩) (hc : c ≤ cap) (hx : sp = none ∨ cap = c) :
      VA ρ (.slice (some ⟨id, off, sp⟩) len c) (.slice (some A) len cap)
  | nilf : VA ρ .nilFunc .nilFunc
  | nili : VA ρ .nilIface .nilIface
  | nilm : VA ρ (.map none) (.map none)
  | map {id l} (h : ρ id = some l) : VA ρ (.map (some id)) (.map (some l.B))

/-- One cell's value. -/
inductive V1 (ρ : Ren) : Value → Value → Prop
  | a {x y} (h : VA ρ x y) : V1 ρ x y
  | fn {f fs fs' cs cs'} (h1 : All2 (VA ρ) fs.toList fs'.toList) (h2 : All2 (VA ρ) cs.toList cs'.toList) : V1 ρ (.func f fs cs) (.func f fs' cs')

/-- A variable's value. -/
inductive VB (ρ : Ren) : Value → Value → Prop
  | v {x y} (h : V1 ρ x y) : VB ρ x y
  | agg {cs cs'} (h : All2 (V1 ρ) cs.toList cs'.toList) : VB ρ (.agg cs) (.agg cs')

inductive VR (ρ : Ren) : Value → Value → Prop
  | v {x y} (h : VB ρ x y) : VR ρ x y
  | tup {cs cs'} (h : All2 (VB ρ) cs.toList cs'.toList) : VR ρ (.tuple cs) (.tuple cs')

section mono
variable {ρ ρ' : Ren} (hle : RLe ρ ρ') {x y : Value}
include hle
theorem VA.mono (h : VA ρ x y) : VA ρ' x y := by
  cases h with
  | bool b => exact .bool b
  | int k n => exact .int k n
  | str s => exact .str s
  | nilp => exact .nilp
  | ptr h => exact .ptr (hle _ _ h)
  | nils => exact .nils
  | sl h a b c d e => exact .sl (hle _ _ h) a b c d e
  | nilf => exact .nilf
  | nili => exact .nili
  | nilm => exact .nilm
  | map h => exact .map (hle _ _ h)
theorem V1.mono (h : V1 ρ x y) : V1 ρ' x y := by
  cases h with
  | a h => exact .a (h.mono hle)
  | fn h1 h2 => exact .fn (h1.mono fun _ _ h => h.mono hle) (h2.mono fun _ _ h => h.mono hle)
theorem VB.mono (h : VB ρ x y) : VB ρ' x y := by
  cases h with
  | v h => exact .v (h.mono hle)
  | agg h => exact .agg (h.mono fun _ _ h => h.mono hle)
theorem VR.mono (h : VR ρ x y) : VR ρ' x y := by
  cases h with
  | v h => exact .v (h.mono hle)
  | tup h => exact .tup (h.mono fun _ _ h => h.mono hle)
end mono

theorem V1.oneCell {ρ : Ren} {x y : Value} (h : V1 ρ x y) : y.oneCell' = true := by
  cases h with
  | a h => cases h <;> rfl
  | fn => rfl
theorem V1.cells {ρ : Ren} {x y : Value} (h : V1 ρ x y) : x.cells = #[x] ∧ y.cells = #[y] := by
  cases h with
  | a h => cases h <;> exact ⟨rfl, rfl⟩
  | fn => exact ⟨rfl, rfl⟩
theorem VB.cells {ρ : Ren} {x y : Value} (h : VB ρ x y) : All2 (V1 ρ) x.cells.toList y.cells.toList := by
  cases h with
  | v h => rw [h.cells.1, h.cells.2]; exact .cons h .nil
  | agg h => exact h

/-! ### names in a value -/
def nmA (D : Nat → Prop) : Value → Prop
  | .pointer (some a) => D a.block
  | .slice (some a) _ _ => D a.block
  | .map (some r) => D r
  | _ => True
def nm1 (D : Nat → Prop) : Value → Prop
  | .func _ fs cs => (∀ x ∈ fs.toList, nmA D x) ∧ (∀ x ∈ cs.toList, nmA D x)
  | v => nmA D v
def nmB (D : Nat → Prop) : Value → Prop
  | .agg cs => ∀ x ∈ cs.toList, nm1 D x
  | v => nm1 D v
def nmR (D : Nat → Prop) : Value → Prop
  | .tuple cs => ∀ x ∈ cs.toList, nmB D x
  | v => nmB D v

theorem All2.nm {ρ : Ren} {R : Value → Value → Prop} {p : Value → Prop} (h : ∀ x y, R x y → p x) : ∀ {l l' : List Value}, All2 R l l' → ∀ x ∈ l, p x
  | _, _, .cons a r, x, hx => by
    rcases List.mem_cons.1 hx with rfl | hx
    · exact h _ _ a
    · exact All2.nm (ρ := ρ) h r x hx

section dom
variable {ρ : Ren} {x y : Value}
theorem VA.nm (h : VA ρ x y) : nmA (fun i => (ρ i).isSome) x := by cases h <;> simp_all [nmA]
theorem V1.nm (h : V1 ρ x y) : nm1 (fun i => (ρ i).isSome) x := by
  cases h with
  | a h => have := h.nm; cases h <;> simpa [nm1] using this
  | fn h1 h2 => exact ⟨All2.nm (ρ := ρ) (fun _ _ h => VA.nm h) h1, All2.nm (ρ := ρ) (fun _ _ h => VA.nm h) h2⟩
end dom

theorem nmA.imp {D E : Nat → Prop} (h : ∀ i, D i → E i) {x : Value} (hx : nmA D x) : nmA E x := by
  unfold nmA at *; split at hx <;> first | exact h _ hx | trivial
theorem nm1.imp {D E : Nat → Prop} (h : ∀ i, D i → E i) {x : Value} (hx : nm1 D x) : nm1 E x := by
  cases x <;> simp only [nm1] at * <;> first | exact nmA.imp h hx | exact ⟨fun x m => (hx.1 x m).imp h, fun x m => (hx.2 x m).imp h⟩

/-- A renaming held to some names. -/
noncomputable def cutR (ρ : Ren) (D : Nat → Prop) : Ren := fun i => open Classical in if D i then ρ i else none
theorem cutR_le (ρ : Ren) (D) : RLe (cutR ρ D) ρ := by
  intro i l h; unfold cutR at h; split at h
  · exact h
  · cases h
theorem cutR_in {ρ : Ren} {D : Nat → Prop} {i l} (h : ρ i = some l) (hd : D i) : cutR ρ D i = some l := by unfold cutR; rw [if_pos hd]; exact h

section cut
variable {ρ : Ren} {D : Nat → Prop} {x y : Value}
theorem VA.cut (h : VA ρ x y) (hx : nmA D x) : VA (cutR ρ D) x y := by
  cases h with
  | bool b => exact .bool b
  | int k n => exact .int k n
  | str s => exact .str s
  | nilp => exact .nilp
  | ptr h => exact .ptr (cutR_in h hx)
  | nils => exact .nils
  | sl h a b c d e => exact .sl (cutR_in h hx) a b c d e
  | nilf => exact .nilf
  | nili => exact .nili
  | nilm => exact .nilm
  | map h => exact .map (cutR_in h hx)
theorem All2.cutG {R S : Value → Value → Prop} {p : Value → Prop} (h : ∀ x y, R x y → p x → S x y) : ∀ {l l' : List Value}, All2 R l l' → (∀ x ∈ l, p x) → All2 S l l'
  | _, _, .nil, _ => .nil
  | _, _, .cons a r, hp => .cons (h _ _ a (hp _ (by simp))) (All2.cutG h r fun x hx => hp x (by simp [hx]))
theorem V1.cut (h : V1 ρ x y) (hx : nm1 D x) : V1 (cutR ρ D) x y := by
  cases h with
  | a h => exact .a (h.cut (by cases h <;> simpa [nm1] using hx))
  | fn h1 h2 => exact .fn (h1.cutG (p := nmA D) (fun _ _ a b => VA.cut a b) hx.1) (h2.cutG (p := nmA D) (fun _ _ a b => VA.cut a b) hx.2)
theorem VB.cut (h : VB ρ x y) (hx : nmB D x) : VB (cutR ρ D) x y := by
  cases h with
  | v h => exact .v (h.cut (by cases h with | a h => cases h <;> simpa [nmB] using hx | fn => simpa [nmB] using hx))
  | agg h => exact .agg (h.cutG (p := nm1 D) (fun _ _ a b => V1.cut a b) hx)
theorem VR.cut (h : VR ρ x y) (hx : nmR D x) : VR (cutR ρ D) x y := by
  cases h with
  | v h => exact .v (h.cut (by
      cases h with
      | v h => cases h with
        | a h => cases h <;> simpa [nmR] using hx
        | fn => simpa [nmR] using hx
      | agg => simpa [nmR] using hx))
  | tup h => exact .tup (h.cutG (p := nmB D) (fun _ _ a b => VB.cut a b) hx)
end cut

/-! ### plain values: the same in each memory -/
def plA : Value → Bool
  | .bool _ | .int .. | .string _ | .pointer none | .slice none 0 0 | .nilFunc | .nilIface | .map none => true
  | _ => false
def pl1 : Value → Bool
  | .func _ fs cs => fs.toList.all plA && cs.toList.all plA
  | v => plA v
def plB : Value → Bool
  | .agg cs => cs.toList.all pl1
  | v => pl1 v
def plR : Value → Bool
  | .tuple cs => cs.toList.all plB
  | v => plB v
theorem All2.refl_of {R : Value → Value → Prop} {p : Value → Bool} (h : ∀ x, p x = true → R x x) : ∀ {l : List Value}, l.all p = true → All2 R l l
  | [], _ => .nil
  | a :: l, hp => by simp only [List.all_cons, Bool.and_eq_true] at hp; exact .cons (h _ hp.1) (All2.refl_of h hp.2)
theorem plA.self (ρ : Ren) {x : Value} (h : plA x = true) : VA ρ x x := by
  unfold plA at h; split at h <;> first | exact .bool _ | exact .int _ _ | exact .str _ | exact .nilp | exact .nils | exact .nilf | exact .nili | exact .nilm | cases h
theorem pl1.self (ρ : Ren) {x : Value} (h : pl1 x = true) : V1 ρ x x := by
  unfold pl1 at h; split at h
  · simp only [Bool.and_eq_true] at h; exact .fn (All2.refl_of (fun _ => plA.self ρ) h.1) (All2.refl_of (fun _ => plA.self ρ) h.2)
  · exact .a (plA.self ρ h)
theorem plB.self (ρ : Ren) {x : Value} (h : plB x = true) : VB ρ x x := by
  unfold plB at h; split at h
  · exact .agg (All2.refl_of (fun _ => pl1.self ρ) h)
  · exact .v (pl1.self ρ h)
theorem plR.self (ρ : Ren) {x : Value} (h : plR x = true) : VR ρ x x := by
  unfold plR at h; split at h
  · exact .tup (All2.refl_of (fun _ => plB.self ρ) h)
  · exact .v (plB.self ρ h)

/-! ### the abstract memory -/
inductive ABlk where
  | cells (rw : Bool) (sz : Nat) (c : List Value)
  | map (es : List (Value × Value))
  | dead

abbrev AHeap := Nat → Option ABlk
def AHeap.set (s : AHeap) (id : Nat) (b : ABlk) : AHeap := fun i => if i = id then some b else s i
theorem AHeap.set_same (s : AHeap) (id : Nat) (b : ABlk) : (s.set id b) id = some b := by simp [AHeap.set]
theorem AHeap.set_other (s : AHeap) {id i : Nat} (b : ABlk) (h : i ≠ id) : (s.set id b) i = s i := by simp [AHeap.set, h]
theorem AHeap.set_set (s : AHeap) (id : Nat) (b b' : ABlk) : (s.set id b).set id b' = s.set id b' := by funext i; simp only [AHeap.set]; split <;> rfl

def ABlk.own : ABlk → Bool
  | .cells rw _ _ => rw
  | .map _ => true
  | .dead => false
def ABlk.live : ABlk → Bool
  | .cells rw _ c => rw || !c.isEmpty
  | .map _ => true
  | .dead => false
theorem ABlk.live_of_own {b : ABlk} (h : b.own = true) : b.live = true := by
  cases b with
  | cells rw sz c => have : rw = true := h; simp [ABlk.live, this]
  | map es => rfl
  | dead => cases h
def ABlk.nm (D : Nat → Prop) : ABlk → Prop
  | .cells _ _ c => ∀ x ∈ c, nm1 D x
  | .map es => ∀ x ∈ es, nmB D x.1 ∧ nmB D x.2
  | .dead => True

/-- How a block lies in a world. -/
def Rep (b0 : Nat) (ρ : Ren) (w : World) (l : Loc) : ABlk → Prop
  | .cells rw sz c => l.sz = sz ∧ (∀ i v, c[i]? = some v → ∃ v', w.cell? ⟨l.B, l.o + i, none⟩ = some v' ∧ V1 ρ v v') ∧
      (rw = true → b0 ≤ l.B ∧ l.B < w.heap.size ∧ c.length ≤ l.K ∧ ∀ i, i < l.K → (w.cell? ⟨l.B, l.o + i, none⟩).isSome = true ∧ w.frozen? ⟨l.B, l.o + i, none⟩ = false)
  | .map es => b0 ≤ l.B ∧ ∃ ents clk, w.heap[l.B]? = some (.map ents clk) ∧ All2 (fun (e : Value × Value) (m : MapEntry) => VB ρ e.1 m.key ∧ VB ρ e.2 m.val) es ents.toList
  | .dead => True

structure Sim (W0 : World) (ρ : Ren) (s : AHeap) (w : World) : Prop where
  below : Below W0.heap.size W0 w
  rep : ∀ id b, s id = some b → ∃ l, ρ id = some l ∧ Rep W0.heap.size ρ w l b
  dom : ∀ id l, ρ id = some l → (s id).isSome = true
  apart : ∀ id id' b b' l l', id ≠ id' → s id = some b → s id' = some b' → b.own = true → b'.live = true → ρ id = some l → ρ id' = some l' → l.B ≠ l'.B
  fin : ∃ N, ∀ id, N ≤ id → s id = none

theorem Sim.unnamed {W0 ρ s w} (h : Sim W0 ρ s w) {id : Nat} (hs : s id = none) : ρ id = none := by
  cases hr : ρ id with
  | none => rfl
  | some l => have := h.dom id l hr; rw [hs] at this; cases this

theorem Rep.mono {b0 ρ ρ' w l b} (hle : RLe ρ ρ') (h : Rep b0 ρ w l b) : Rep b0 ρ' w l b := by
  cases b with
  | cells rw sz c => exact ⟨h.1, fun i v hv => let ⟨v', a, b⟩ := h.2.1 i v hv; ⟨v', a, b.mono hle⟩, h.2.2⟩
  | map es => exact ⟨h.1, let ⟨a, b, c, d⟩ := h.2; ⟨a, b, c, d.mono fun _ _ x => ⟨x.1.mono hle, x.2.mono hle⟩⟩⟩
  | dead => trivial

/-- A block that lies as it lay. -/
theorem Rep.frame {b0 ρ w w' l b} (h : Rep b0 ρ w l b) (hc : ∀ o, w'.cell? ⟨l.B, o, none⟩ = w.cell? ⟨l.B, o, none⟩) (hf : ∀ o, w'.frozen? ⟨l.B, o, none⟩ = w.frozen? ⟨l.B, o, none⟩)
    (hb : b = .map [] ∨ True → w'.heap[l.B]? = w.heap[l.B]? ∨ (∀ es, b ≠ .map es)) (hz : w.heap.size ≤ w'.heap.size) : Rep b0 ρ w' l b := by
  cases b with
  | cells rw sz c =>
    refine ⟨h.1, fun i v hv => ?_, fun hr => ?_⟩
    · obtain ⟨v', a, b⟩ := h.2.1 i v hv; exact ⟨v', by rw [hc]; exact a, b⟩
    · obtain ⟨a, b, c, d⟩ := h.2.2 hr; exact ⟨a, Nat.lt_of_lt_of_le b hz, c, fun i hi => by rw [hc, hf]; exact d i hi⟩
  | map es =>
    obtain ⟨h1, ents, clk, h2, h3⟩ := h
    rcases hb (.inr trivial) with e | e
    · exact ⟨h1, ents, clk, by rw [e]; exact h2, h3⟩
    · exact absurd rfl (e es)
  | dead => trivial

theorem cell?_of_heap {w w' : World} {B : Nat} (h : w'.heap[B]? = w.heap[B]?) (o : Nat) : w'.cell? ⟨B, o, none⟩ = w.cell? ⟨B, o, none⟩ := World.cell?_of_block (w := w) h
theorem frozen?_of_heap {w w' : World} {B : Nat} (h : w'.heap[B]? = w.heap[B]?) (o : Nat) : w'.frozen? ⟨B, o, none⟩ = w.frozen? ⟨B, o, none⟩ := World.frozen?_of_block (w := w) h
theorem Rep.same {b0 ρ w w' l b} (h : Rep b0 ρ w l b) (hb : w'.heap[l.B]? = w.heap[l.B]?) (hz : w.heap.size ≤ w'.heap.size) : Rep b0 ρ w' l b :=
  h.frame (cell?_of_heap hb) (frozen?_of_heap hb) (fun _ => .inl hb) hz

theorem Rep.of_idle {b0 ρ ρ' w w' l b} (h : Rep b0 ρ w l b) (hb : b.live = false) : Rep b0 ρ' w' l b := by
  cases b with
  | cells rw sz c =>
    simp only [ABlk.live, Bool.or_eq_false_iff, Bool.not_eq_false', List.isEmpty_iff] at hb
    obtain ⟨rfl, rfl⟩ := hb
    exact ⟨h.1, fun i v hv => by simp at hv, fun e => by cases e⟩
  | map es => cases hb
  | dead => trivial
theorem Sim.drew {W0 ρ s w} (h : Sim W0 ρ s w) : Sim W0 ρ s w.drew :=
  ⟨h.below.drew, fun id b hb => let ⟨l, a, r⟩ := h.rep id b hb; ⟨l, a, r.same rfl (Nat.le_refl _)⟩, h.dom, h.apart, h.fin⟩

theorem fin_set {s : AHeap} (h : ∃ N, ∀ id, N ≤ id → s id = none) (i b) : ∃ N, ∀ id, N ≤ id → (s.set i b) id = none := by
  obtain ⟨N, h⟩ := h
  exact ⟨max N (i + 1), fun id hid => by rw [AHeap.set_other _ _ (by omega)]; exact h id (by omega)⟩

/-- A store into a cell of one's own. -/
theorem Sim.store {W0 ρ s w} (h : Sim W0 ρ s w) {id sz c l i v v'} (hs : s id = some (.cells true sz c)) (hl : ρ id = some l) (hi : i < c.length) (hv : V1 ρ v v') :
    (w.cell? ⟨l.B, l.o + i, none⟩).isSome = true ∧ w.frozen? ⟨l.B, l.o + i, none⟩ = false ∧ Sim W0 ρ (s.set id (.cells true sz (c.set i v))) (w.setCell ⟨l.B, l.o + i, none⟩ v') := by
  obtain ⟨l', hl', hr⟩ := h.rep id _ hs
  obtain rfl : l = l' := by rw [hl] at hl'; exact Option.some.inj hl'
  obtain ⟨h1, h2, h3⟩ := hr
  obtain ⟨hb0, hbs, hk, hall⟩ := h3 rfl
  have hi' := hall i (by omega)
  refine ⟨hi'.1, hi'.2, ?_⟩
  refine ⟨h.below.setCell (p := ⟨l.B, l.o + i, none⟩) hb0 _, ?_, ?_, ?_, fin_set h.fin _ _⟩
  · intro id' b hb
    by_cases hid : id' = id
    · subst hid
      rw [AHeap.set_same] at hb
      obtain rfl := Option.some.inj hb
      refine ⟨l, hl, h1, ?_, ?_⟩
      · intro j u hu
        by_cases hj : j = i
        · subst hj
          obtain ⟨x, hx⟩ := Option.isSome_iff_exists.1 hi'.1
          rw [List.getElem?_set_self hi] at hu
          obtain rfl := Option.some.inj hu
          exact ⟨v', World.cell?_setCell_same w _ _ hx, hv⟩
        · rw [List.getElem?_set_ne (Ne.symm hj)] at hu
          obtain ⟨u', a, b⟩ := h2 j u hu
          exact ⟨u', by rw [World.cell?_setCell_other (w := w) (h := by simp; omega)]; exact a, b⟩
      · intro _
        refine ⟨hb0, by simpa using hbs, by simpa using hk, fun j hj => ?_⟩
        rw [World.frozen?_setCell]
        refine ⟨?_, (hall j hj).2⟩
        by_cases hji : j = i
        · subst hji
          obtain ⟨x, hx⟩ := Option.isSome_iff_exists.1 hi'.1
          rw [World.cell?_setCell_same w _ _ hx]; rfl
        · rw [World.cell?_setCell_other (w := w) (h := by simp; omega)]; exact (hall j hj).1
    · rw [AHeap.set_other _ _ hid] at hb
      obtain ⟨l', hl', hr'⟩ := h.rep id' b hb
      refine ⟨l', hl', ?_⟩
      cases hlive : b.live with
      | false => exact hr'.of_idle hlive
      | true =>
        have hne := h.apart id id' _ b l l' (Ne.symm hid) hs hb rfl hlive hl hl'
        exact hr'.same (Below.heap_setCell _ _ _ _ (Ne.symm hne)) (by simp)
  · intro id' l' hl'
    by_cases hid : id' = id
    · subst hid; rw [AHeap.set_same]; rfl
    · rw [AHeap.set_other _ _ hid]; exact h.dom id' l' hl'
  · intro a b x y p q hne hx hy ho hlv hp hq
    by_cases ha : a = id
    · subst ha
      rw [AHeap.set_other _ _ (Ne.symm hne)] at hy
      exact h.apart a b _ y p q hne hs hy rfl hlv hp hq
    · rw [AHeap.set_other _ _ ha] at hx
      by_cases hbb : b = id
      · subst hbb; exact h.apart a b x _ p q hne hx hs ho rfl hp hq
      · rw [AHeap.set_other _ _ hbb] at hy; exact h.apart a b x y p q hne hx hy ho hlv hp hq

def setR (ρ : Ren) (id : Nat) (l : Loc) : Ren := fun i => if i = id then some l else ρ i
theorem setR_le {ρ : Ren} {id l} (h : ρ id = none) : RLe ρ (setR ρ id l) := by
  intro i m hm; unfold setR; split
  · rename_i e; subst e; rw [h] at hm; cases hm
  · exact hm
theorem setR_same (ρ : Ren) (id l) : setR ρ id l id = some l := by simp [setR]
theorem setR_other (ρ : Ren) {id i} (l) (h : i ≠ id) : setR ρ id l i = ρ i := by simp [setR, h]

theorem Below.heap_lt {W0 w : World} (h : Below W0.heap.size W0 w) : W0.heap.size ≤ w.heap.size := h.size

/-- A new name for a place: of a new block, or of one whose elder name is dead. -/
theorem Sim.name {W0 ρ s w} (h : Sim W0 ρ s w) {id l b} (hs : s id = none) (hr : ∀ ρ', RLe ρ ρ' → Rep W0.heap.size ρ' w l b)
    (hap : ∀ id' b' l', s id' = some b' → b'.live = true → ρ id' = some l' → l.B ≠ l'.B) :
    RLe ρ (setR ρ id l) ∧ Sim W0 (setR ρ id l) (s.set id b) w := by
  have hle : RLe ρ (setR ρ id l) := setR_le (h.unnamed hs)
  refine ⟨hle, h.below, ?_, ?_, ?_, fin_set h.fin _ _⟩
  · intro id' b' hb
    by_cases hid : id' = id
    · subst hid; rw [AHeap.set_same] at hb; obtain rfl := Option.some.inj hb
      exact ⟨l, setR_same _ _ _, hr _ hle⟩
    · rw [AHeap.set_other _ _ hid] at hb
      obtain ⟨l', hl', hr'⟩ := h.rep id' b' hb
      exact ⟨l', by rw [setR_other _ _ hid]; exact hl', hr'.mono hle⟩
  · intro id' l' hl'
    by_cases hid : id' = id
    · subst hid; rw [AHeap.set_same]; rfl
    · rw [setR_other _ _ hid] at hl'; rw [AHeap.set_other _ _ hid]; exact h.dom id' l' hl'
  · intro x y bx bY lx ly hne hx hy ho hlv hlx hly
    by_cases hxi : x = id
    · subst hxi
      rw [setR_same] at hlx; obtain rfl := Option.some.inj hlx
      rw [AHeap.set_other _ _ (Ne.symm hne)] at hy; rw [setR_other _ _ (Ne.symm hne)] at hly
      exact hap y bY ly hy hlv hly
    · rw [AHeap.set_other _ _ hxi] at hx; rw [setR_other _ _ hxi] at hlx
      by_cases hyi : y = id
      · subst hyi
        rw [setR_same] at hly; obtain rfl := Option.some.inj hly
        refine fun e => ?_
        exact hap x _ lx hx (ABlk.live_of_own ho) hlx e.symm
      · rw [AHeap.set_other _ _ hyi] at hy; rw [setR_other _ _ hyi] at hly
        exact h.apart x y bx bY lx ly hne hx hy ho hlv hlx hly

theorem Sim.lt {W0 ρ s w} (h : Sim W0 ρ s w) {id b l} (hs : s id = some b) (hl : ρ id = some l) (hn : b.live = true) : l.B < w.heap.size := by
  obtain ⟨l', hl', hr⟩ := h.rep id b hs
  obtain rfl : l = l' := by rw [hl] at hl'; exact Option.some.inj hl'
  cases b with
  | cells rw sz c =>
    cases rw with
    | true => exact (hr.2.2 rfl).2.1
    | false =>
      cases c with
      | nil => simp [ABlk.live] at hn
      | cons v c => obtain ⟨v', hv', _⟩ := hr.2.1 0 v (by simp); exact World.block_lt_of_cell? w _ hv'
  | map es =>
    obtain ⟨_, e, k, he, _⟩ := hr
    exact (Array.getElem?_eq_some_iff.1 he).1
  | dead => cases hn
end Go.Proofs.Ytdbnpghckgmaoaa.Ab

/- Sets that only grow together, as lists of parents: what joining does to their roots. No program, no memory. -/
namespace Go.Proofs.Ytdbnpghckgmaoaa.JP
set_option linter.unusedVariables false
set_option linter.unusedSimpArgs false
set_option linter.unusedSectionVars false

/-- The i-th of a list. -/
def g (l : List Int) (i : Int) : Int := l.getD i.toNat 0
def In (l : List Int) (i : Int) : Prop := 0 ≤ i ∧ i < l.length
theorem g_set_same {l : List Int} {i v : Int} (h : In l i) : g (l.set i.toNat v) i = v := by
  have : i.toNat < l.length := by have := h.1; have := h.2; omega
  simp [g, List.getD, this]
theorem g_set_other {l : List Int} {i k v : Int} (hi : 0 ≤ i) (hk : 0 ≤ k) (h : k ≠ i) : g (l.set i.toNat v) k = g l k := by
  have : i.toNat ≠ k.toNat := by omega
  simp [g, List.getD, List.getElem?_set_ne this]
theorem In.set {l : List Int} {i k v : Int} (h : In l i) : In (l.set k.toNat v) i := by simpa [In] using h

/-- Each leads to its set's root: a measure falls on the way. -/
def Wf (m : Int → Nat) (U : List Int) : Prop := ∀ i, In U i → In U (g U i) ∧ (g U i = i ∨ m (g U i) < m i)

inductive Root (U : List Int) : Int → Int → Prop
  | here {a} (h : g U a = a) : Root U a a
  | up {a r} (h : g U a ≠ a) (hr : Root U (g U a) r) : Root U a r

theorem Root.uniq {U : List Int} {a r : Int} (h : Root U a r) : ∀ {q}, Root U a q → q = r := by
  induction h with
  | here h => intro q hq; cases hq with
    | here _ => rfl
    | up h' _ => exact absurd h h'
  | up h _ ih => intro q hq; cases hq with
    | here h' => exact absurd h' h
    | up _ hr => exact ih hr
theorem Root.root {U : List Int} {a r : Int} (h : Root U a r) : g U r = r := by
  induction h with
  | here h => exact h
  | up _ _ ih => exact ih
theorem Root.inn {m : Int → Nat} {U : List Int} (hw : Wf m U) {a r : Int} (h : Root U a r) : In U a → In U r := by
  induction h with
  | here h => exact id
  | up _ _ ih => exact fun ha => ih (hw _ ha).1
theorem Root.ex {m : Int → Nat} {U : List Int} (hw : Wf m U) : ∀ (k : Nat) (a : Int), m a < k → In U a → ∃ r, Root U a r := by
  intro k
  induction k with
  | zero => intro a h; omega
  | succ k ih =>
    intro a hk ha
    by_cases h : g U a = a
    · exact ⟨a, .here h⟩
    · obtain ⟨h1, h2⟩ := hw a ha
      obtain ⟨r, hr⟩ := ih (g U a) (by have := h2.resolve_left h; omega) h1
      exact ⟨r, .up h hr⟩

/-- One halving of a way. -/
def half (U : List Int) (a : Int) : List Int := U.set a.toNat (g U (g U a))

theorem half_spec {m : Int → Nat} {U : List Int} (hw : Wf m U) {a : Int} (ha : In U a) (hne : g U a ≠ a) :
    Wf m (half U a) ∧ (half U a).length = U.length ∧ (∀ x r, In U x → Root U x r → Root (half U a) x r) ∧ m (g U (g U a)) < m a ∧ In U (g U (g U a)) := by
  obtain ⟨h1, h2⟩ := hw a ha
  obtain ⟨h3, h4⟩ := hw _ h1
  have hlt : m (g U a) < m a := h2.resolve_left hne
  have hlt2 : m (g U (g U a)) < m a := by rcases h4 with h | h; (rw [h]; exact hlt); omega
  have e1 : g (half U a) a = g U (g U a) := g_set_same ha
  have e2 : ∀ x, 0 ≤ x → x ≠ a → g (half U a) x = g U x := fun x hx hxa => g_set_other ha.1 hx hxa
  have hin : ∀ x, In (half U a) x ↔ In U x := fun x => by simp [In, half]
  refine ⟨fun i hi => ?_, by simp [half], ?_, hlt2, h3⟩
  · rw [hin] at hi
    rw [hin]
    by_cases e : i = a
    · subst e; rw [e1]; exact ⟨h3, .inr hlt2⟩
    · rw [e2 i hi.1 e]; exact hw i hi
  · intro x r hx hr
    have key : ∀ k x, m x < k → In U x → ∀ r, Root U x r → Root (half U a) x r := by
      intro k
      induction k with
      | zero => intro x h; omega
      | succ k ih =>
        intro x hk hx r hr
        by_cases e : x = a
        · subst e
          cases hr with
          | here h => exact absurd h hne
          | up _ hr =>
            have hne' : g (half U x) x ≠ x := by rw [e1]; intro h; rw [h] at hlt2; omega
            refine .up hne' ?_
            rw [e1]
            cases hr with
            | here h => rw [h]; exact ih _ (by omega) h1 _ (.here h)
            | up _ hr => exact ih _ (by omega) h3 _ hr
        · cases hr with
          | here h => exact .here (by rw [e2 x hx.1 e]; exact h)
          | up h hr =>
            have := (hw x hx)
            refine .up (by rw [e2 x hx.1 e]; exact h) ?_
            rw [e2 x hx.1 e]
            exact ih _ (by have := this.2.resolve_left h; omega) this.1 _ hr
    exact key _ x (Nat.lt_succ_self _) hx r hr

/-- The way to a root, halved as one goes. -/
def topS : Nat → List Int → Int → List Int × Int
  | 0, U, a => (U, a)
  | k + 1, U, a => if g U a = a then (U, a) else topS k (half U a) (g U (g U a))

theorem topS_spec {m : Int → Nat} : ∀ (k : Nat) {U : List Int} {a : Int}, Wf m U → In U a → m a ≤ k →
    Wf m (topS k U a).1 ∧ (topS k U a).1.length = U.length ∧ (∀ x r, In U x → Root U x r → Root (topS k U a).1 x r) ∧ Root U a (topS k U a).2 := by
  intro k
  induction k with
  | zero =>
    intro U a hw ha hk
    refine ⟨hw, rfl, fun _ _ _ h => h, .here ?_⟩
    have := (hw a ha).2
    rcases this with h | h
    · exact h
    · omega
  | succ k ih =>
    intro U a hw ha hk
    simp only [topS]
    by_cases h : g U a = a
    · rw [if_pos h]; exact ⟨hw, rfl, fun _ _ _ h => h, .here h⟩
    · rw [if_neg h]
      obtain ⟨h1, h2, h3, h4, h5⟩ := half_spec hw ha h
      have hin : ∀ x, In (half U a) x ↔ In U x := fun x => by simp [In, half]
      obtain ⟨i1, i2, i3, i4⟩ := ih (U := half U a) (a := g U (g U a)) h1 ((hin _).2 h5) (by omega)
      refine ⟨i1, i2.trans h2, fun x r hx hr => i3 x r ((hin x).2 hx) (h3 x r hx hr), ?_⟩
      obtain ⟨r, hr⟩ := Root.ex hw _ a (Nat.lt_succ_self _) ha
      have hr' := h3 a r ha hr
      have e1 : g (half U a) a = g U (g U a) := g_set_same ha
      cases hr' with
      | here h' => exfalso; rw [e1] at h'; rw [h'] at h4; omega
      | up _ hr' =>
        rw [e1] at hr'
        rw [hr'.uniq i4]
        exact hr

theorem topS_more {m : Int → Nat} : ∀ (k k' : Nat) {U : List Int} {a : Int}, Wf m U → In U a → m a ≤ k → m a ≤ k' → topS k U a = topS k' U a := by
  intro k
  induction k with
  | zero =>
    intro k' U a hw ha hk hk'
    have h : g U a = a := by rcases (hw a ha).2 with h | h; exact h; omega
    cases k' <;> simp [topS, h]
  | succ k ih =>
    intro k' U a hw ha hk hk'
    by_cases h : g U a = a
    · cases k' <;> simp [topS, h]
    · obtain ⟨h1, h2, h3, h4, h5⟩ := half_spec hw ha h
      cases k' with
      | zero => omega
      | succ k' =>
        simp only [topS, if_neg h]
        exact ih k' h1 (by simpa [In, half] using h5) (by omega) (by omega)
end Go.Proofs.Ytdbnpghckgmaoaa.JP

/- Forests, plain: what edges link, ways, cuts. No program, no memory. -/
namespace Go.Proofs.Ytdbnpghckgmaoaa.TP
set_option linter.unusedVariables false
set_option linter.unusedSimpArgs false
set_option linter.unusedSectionVars false
structure E where
  a : Int
  b : Int
  w : Int
deriving DecidableEq
def E.has (e : E) (x y : Int) : Prop := (e.a = x ∧ e.b = y) ∨ (e.a = y ∧ e.b = x)
theorem E.has_symm {e : E} {x y : Int} (h : e.has x y) : e.has y x := h.elim .inr .inl
def Adj (l : List E) (x y : Int) : Prop := ∃ e ∈ l, e.has x y
theorem Adj.symm {l : List E} {x y : Int} (h : Adj l x y) : Adj l y x := let ⟨e, h1, h2⟩ := h; ⟨e, h1, E.has_symm h2⟩
theorem Adj.mono {l l' : List E} (hl : ∀ e ∈ l, e ∈ l') {x y : Int} (h : Adj l x y) : Adj l' x y := let ⟨e, h1, h2⟩ := h; ⟨e, hl e h1, h2⟩
/-- Edges lead from one to another one. -/
inductive Conn (l : List E) : Int → Int → Prop
  | refl (x : Int) : Conn l x x
  | step {x y z : Int} (h : Adj l x y) (r : Conn l y z) : Conn l x z
namespace Conn
variable {l l' : List E} {x y z : Int}
theorem one (h : Adj l x y) : Conn l x y := .step h (.refl y)
theorem trans (h : Conn l x y) (k : Conn l y z) : Conn l x z := by
  induction h with
  | refl => exact k
  | step a _ ih => exact .step a (ih k)
theorem symm (h : Conn l x y) : Conn l y x := by
  induction h with
  | refl => exact .refl _
  | step a _ ih => exact ih.trans (one a.symm)
theorem mono (hl : ∀ e ∈ l, e ∈ l') (h : Conn l x y) : Conn l' x y := by
  induction h with
  | refl => exact .refl _
  | step a _ ih => exact .step (a.mono hl) ih
theorem nil (h : Conn [] x y) : x = y := by
  cases h with
  | refl => rfl
  | step a _ => obtain ⟨e, he, _⟩ := a; cases he
/-- An edge more. -/
theorem add {e : E} (hl : ∀ f ∈ l', f = e ∨ f ∈ l) (h : Conn l' x y) : Conn l x y ∨ (Conn l x e.a ∧ Conn l e.b y) ∨ (Conn l x e.b ∧ Conn l e.a y) := by
  induction h with
  | refl => exact .inl (.refl _)
  | step a _ ih =>
    obtain ⟨f, hf, hh⟩ := a
    rcases hl f hf with rfl | hf
    · rcases hh with ⟨rfl, rfl⟩ | ⟨rfl, rfl⟩
      · rcases ih with h | ⟨_, h⟩ | ⟨_, h⟩
        · exact .inr (.inl ⟨.refl _, h⟩)
        · exact .inr (.inl ⟨.refl _, h⟩)
        · exact .inl h
      · rcases ih with h | ⟨_, h⟩ | ⟨_, h⟩
        · exact .inr (.inr ⟨.refl _, h⟩)
        · exact .inl h
        · exact .inr (.inr ⟨.refl _, h⟩)
    · have s : Conn l _ _ := one ⟨f, hf, hh⟩
      rcases ih with h | ⟨h, k⟩ | ⟨h, k⟩
      · exact .inl (s.trans h)
      · exact .inr (.inl ⟨s.trans h, k⟩)
      · exact .inr (.inr ⟨s.trans h, k⟩)
theorem add' {e : E} (hl : ∀ f ∈ l, f ∈ l') (he : e ∈ l') : (Conn l x y ∨ (Conn l x e.a ∧ Conn l e.b y) ∨ (Conn l x e.b ∧ Conn l e.a y)) → Conn l' x y := by
  have s : Conn l' e.a e.b := one ⟨e, he, .inl ⟨rfl, rfl⟩⟩
  rintro (h | ⟨h, k⟩ | ⟨h, k⟩)
  · exact h.mono hl
  · exact (h.mono hl).trans (s.trans (k.mono hl))
  · exact (h.mono hl).trans (s.symm.trans (k.mono hl))
end Conn

/-- Edges but one. -/
def rm (l : List E) (e : E) : List E := l.filter fun f => decide (f ≠ e)
theorem mem_rm {l : List E} {e f : E} : f ∈ rm l e ↔ f ∈ l ∧ f ≠ e := by simp [rm]
theorem rm_sub {l : List E} {e : E} : ∀ f ∈ rm l e, f ∈ l := fun _ h => (mem_rm.1 h).1

def Node (n : Int) : Prop := 1 ≤ n ∧ n ≤ 64
instance {n : Int} : Decidable (Node n) := by unfold Node; infer_instance
/-- An edge that may be. -/
def E.may (e : E) : Prop := Node e.a ∧ Node e.b ∧ e.a < e.b ∧ 0 ≤ e.w ∧ e.w ≤ 2147483647
instance {e : E} : Decidable e.may := by unfold E.may; infer_instance
/-- Each pair once. -/
def Apart (l : List E) : Prop := l.Pairwise fun e f => ¬ (e.a = f.a ∧ e.b = f.b)
/-- Edges that may be together. -/
def Good (l : List E) : Prop := (∀ e ∈ l, e.may) ∧ Apart l
theorem Apart.nodup {l : List E} (h : Apart l) : l.Nodup := h.imp fun {a b} h e => h (by rw [e]; exact ⟨rfl, rfl⟩)
theorem Apart.eq {l : List E} (h : Apart l) {e f : E} (he : e ∈ l) (hf : f ∈ l) (ha : e.a = f.a) (hb : e.b = f.b) : e = f := by
  obtain ⟨i, hi, rfl⟩ := List.mem_iff_getElem.1 he
  obtain ⟨j, hj, rfl⟩ := List.mem_iff_getElem.1 hf
  rcases Nat.lt_trichotomy i j with h1 | h1 | h1
  · exact absurd ⟨ha, hb⟩ ((List.pairwise_iff_getElem.1 h) i j hi hj h1)
  · subst h1; rfl
  · exact absurd ⟨ha.symm, hb.symm⟩ ((List.pairwise_iff_getElem.1 h) j i hj hi h1)
/-- The edge of two nodes is one. -/
theorem Good.eq {l : List E} (h : Good l) {e f : E} (he : e ∈ l) (hf : f ∈ l) {x y : Int} (h1 : e.has x y) (h2 : f.has x y) : e = f := by
  have a := (h.1 e he).2.2.1
  have b := (h.1 f hf).2.2.1
  rcases h1 with ⟨rfl, rfl⟩ | ⟨rfl, rfl⟩ <;> rcases h2 with ⟨h3, h4⟩ | ⟨h3, h4⟩
  · exact h.2.eq he hf h3.symm h4.symm
  · omega
  · omega
  · exact h.2.eq he hf h3.symm h4.symm
theorem Good.sub {l l' : List E} (h : Good l) (hs : l'.Sublist l) : Good l' := ⟨fun e he => h.1 e (hs.subset he), h.2.sublist hs⟩
theorem Good.rm {l : List E} (h : Good l) (e : E) : Good (rm l e) := h.sub List.filter_sublist
theorem Good.take {l : List E} (h : Good l) (i : Nat) : Good (l.take i) := h.sub (List.take_sublist _ _)

/-- No edge closes a ring. -/
def Forest (l : List E) : Prop := ∀ i e, l[i]? = some e → ¬ Conn (l.take i) e.a e.b
def Cut (l : List E) : Prop := ∀ e ∈ l, ¬ Conn (rm l e) e.a e.b
theorem Forest.nil : Forest [] := fun i e h => by simp at h
theorem Forest.take {l : List E} (h : Forest l) (k : Nat) : Forest (l.take k) := fun i e hi hc => by
  rw [List.getElem?_take] at hi
  split at hi
  · rename_i hlt
    rw [List.take_take, Nat.min_eq_left (by omega)] at hc
    exact h i e hi hc
  · cases hi
theorem Forest.snoc {l : List E} {e : E} : Forest (l ++ [e]) ↔ Forest l ∧ ¬ Conn l e.a e.b := by
  constructor
  · intro h
    refine ⟨?_, ?_⟩
    · have := h.take l.length; rwa [List.take_left] at this
    · have := h l.length e (by simp); rwa [List.take_left] at this
  · rintro ⟨h, h2⟩ i f hi hc
    rcases Nat.lt_trichotomy i l.length with h1 | h1 | h1
    · rw [List.getElem?_append_left h1] at hi
      rw [List.take_append_of_le_length (by omega)] at hc
      exact h i f hi hc
    · subst h1
      rw [List.take_left] at hc
      simp at hi
      subst hi; exact h2 hc
    · rw [List.getElem?_eq_none (by simp; omega)] at hi; cases hi
theorem Forest.cut {l : List E} (hn : l.Nodup) (h : Forest l) : Cut l := by
  have key : ∀ k, k ≤ l.length → Cut (l.take k) := by
    intro k
    induction k with
    | zero => intro _ e he; simp at he
    | succ k ih =>
      intro hk e he hc
      have hlt : k < l.length := by omega
      have hsp : l.take (k + 1) = l.take k ++ [l[k]] := by rw [List.take_succ_eq_append_getElem hlt]
      have hnk : (l.take k ++ [l[k]]).Nodup := by rw [← hsp]; exact hn.sublist (List.take_sublist _ _)
      have hf : l[k] ∉ l.take k := fun hm => (List.nodup_append.1 hnk).2.2 _ hm _ (List.mem_singleton.2 rfl) rfl
      have hfo : ¬ Conn (l.take k) l[k].a l[k].b := h k _ (List.getElem?_eq_getElem hlt)
      rw [hsp] at he hc
      rcases List.mem_append.1 he with he | he
      · have hne : l[k] ≠ e := fun e' => hf (by rw [e']; exact he)
        have := Conn.add (l := rm (l.take k) e) (e := l[k]) (fun f hf => by
          obtain ⟨h1, h2⟩ := mem_rm.1 hf
          rcases List.mem_append.1 h1 with h1 | h1
          · exact .inr (mem_rm.2 ⟨h1, h2⟩)
          · exact .inl (List.mem_singleton.1 h1)) hc
        have s : Conn (l.take k) e.a e.b := .one ⟨e, he, .inl ⟨rfl, rfl⟩⟩
        rcases this with h1 | ⟨h1, h2⟩ | ⟨h1, h2⟩
        · exact ih (by omega) e he h1
        · exact hfo ((h1.mono rm_sub).symm.trans (s.trans (h2.mono rm_sub).symm))
        · exact hfo ((h2.mono rm_sub).trans (s.symm.trans (h1.mono rm_sub)))
      · obtain rfl := List.mem_singleton.1 he
        refine hfo (hc.mono fun f hf => ?_)
        obtain ⟨h1, h2⟩ := mem_rm.1 hf
        rcases List.mem_append.1 h1 with h1 | h1
        · exact h1
        · exact absurd (List.mem_singleton.1 h1) h2
  have := key l.length (Nat.le_refl _)
  rwa [List.take_length] at this
theorem Cut.forest {l : List E} (hn : l.Nodup) (h : Cut l) : Forest l := fun i e hi hc => by
  have hm : e ∈ l := List.mem_of_getElem? hi
  refine h e hm (hc.mono fun f hf => mem_rm.2 ⟨List.mem_of_mem_take hf, fun e' => ?_⟩)
  subst e'
  obtain ⟨j, hj, hjf⟩ := List.mem_iff_getElem.1 hf
  obtain ⟨hi', hif⟩ := List.getElem?_eq_some_iff.1 hi
  rw [List.length_take] at hj
  rw [List.getElem_take] at hjf
  have := (List.getElem_inj (h₀ := by omega) (h₁ := hi') hn).1 (hjf.trans hif.symm)
  omega
theorem Cut.sub {l l' : List E} (h : Cut l) (hs : ∀ e ∈ l', e ∈ l) : Cut l' := fun e he hc => h e (hs e he) (hc.mono fun f hf => mem_rm.2 ⟨hs f (mem_rm.1 hf).1, (mem_rm.1 hf).2⟩)

/-- A way: nodes, each once, each beside the next. -/
inductive Way (l : List E) : Int → Int → List Int → Prop
  | one (a : Int) : Way l a a [a]
  | cons {a b c : Int} {p : List Int} (h : Adj l a b) (hn : a ∉ p) (r : Way l b c p) : Way l a c (a :: p)
namespace Way
variable {l l' : List E} {a b c x y : Int} {p u v : List Int}
theorem head (h : Way l a b p) : ∃ t, p = a :: t := by cases h <;> exact ⟨_, rfl⟩
theorem ne (h : Way l a b p) : p ≠ [] := by obtain ⟨t, rfl⟩ := h.head; simp
theorem nodup (h : Way l a b p) : p.Nodup := by
  induction h with
  | one => simp
  | cons _ hn _ ih => exact List.nodup_cons.2 ⟨hn, ih⟩
theorem last (h : Way l a b p) : p[p.length - 1]? = some b := by
  induction h with
  | one => rfl
  | cons _ _ r ih =>
    obtain ⟨t, rfl⟩ := r.head
    simpa using ih
theorem first (h : Way l a b p) : p[0]? = some a := by obtain ⟨t, rfl⟩ := h.head; rfl
theorem conn (h : Way l a b p) : Conn l a b := by
  induction h with
  | one => exact .refl _
  | cons h _ _ ih => exact .step h ih
theorem mono (hl : ∀ e ∈ l, e ∈ l') (h : Way l a b p) : Way l' a b p := by
  induction h with
  | one => exact .one _
  | cons h hn _ ih => exact .cons (h.mono hl) hn ih
theorem mem_last (h : Way l a b p) : b ∈ p := List.mem_of_getElem? h.last
theorem mem_first (h : Way l a b p) : a ∈ p := List.mem_of_getElem? h.first
/-- All of a way is linked to its end. -/
theorem conn_mem (h : Way l a b p) : ∀ x ∈ p, Conn l x b := by
  induction h with
  | one => intro x hx; rw [List.mem_singleton.1 hx]; exact .refl _
  | cons h hn r ih =>
    intro x hx
    rcases List.mem_cons.1 hx with rfl | hx
    · exact .step h r.conn
    · exact ih x hx
theorem back (h : Way l a b p) : ∀ {u v : List Int} {x : Int}, p = u ++ x :: v → Way l x b (x :: v) := by
  induction h with
  | one =>
    intro u v x e
    cases u with
    | nil => injection e with e1 e2; subst e1; subst e2; exact .one _
    | cons _ u => injection e with e1 e2; simp at e2
  | cons h hn r ih =>
    intro u v x e
    cases u with
    | nil => injection e with e1 e2; subst e1; subst e2; exact .cons h hn r
    | cons _ u => injection e with e1 e2; exact ih e2
theorem front (h : Way l a b p) : ∀ {u v : List Int} {x : Int}, p = u ++ x :: v → Way l a x (u ++ [x]) := by
  induction h with
  | one =>
    intro u v x e
    cases u with
    | nil => injection e with e1 e2; subst e1; exact .one _
    | cons _ u => injection e with e1 e2; simp at e2
  | cons h hn r ih =>
    intro u v x e
    cases u with
    | nil => injection e with e1 e2; subst e1; exact .one _
    | cons z u =>
      injection e with e1 e2
      subst e1
      refine .cons h (fun hm => hn ?_) (ih e2)
      rw [e2]
      rcases List.mem_append.1 hm with hm | hm
      · exact List.mem_append_left _ hm
      · exact List.mem_append_right _ (by rw [List.mem_singleton.1 hm]; exact List.mem_cons_self)
theorem suffix (h : Way l a b p) (hx : x ∈ p) : ∃ q, Way l x b q ∧ ∀ z ∈ q, z ∈ p := by
  obtain ⟨u, v, rfl⟩ := List.append_of_mem hx
  exact ⟨_, h.back rfl, fun z hz => List.mem_append_right _ hz⟩
theorem ex (h : Conn l a b) : ∃ p, Way l a b p := by
  induction h with
  | refl => exact ⟨_, .one _⟩
  | step h _ ih =>
    rename_i x y z _
    obtain ⟨p, hp⟩ := ih
    by_cases hx : x ∈ p
    · obtain ⟨q, hq, _⟩ := hp.suffix hx
      exact ⟨q, hq⟩
    · exact ⟨_, .cons h hx hp⟩
/-- Two ways, one behind the other. -/
theorem app (h : Way l a b p) : ∀ {q : List Int}, Way l b c (b :: q) → (∀ x ∈ p, x ∉ q) → Way l a c (p ++ q) := by
  induction h with
  | one => intro q h2 _; exact h2
  | cons h hn r ih =>
    intro q h2 hd
    refine .cons h (fun hm => ?_) (ih h2 fun x hx => hd x (List.mem_cons_of_mem _ hx))
    rcases List.mem_append.1 hm with hm | hm
    · exact hn hm
    · exact hd _ List.mem_cons_self hm
theorem rev (h : Way l a b p) : Way l b a p.reverse := by
  induction h with
  | one => exact .one _
  | cons h hn r ih =>
    rename_i x y z p
    rw [List.reverse_cons]
    obtain ⟨t, ht⟩ := r.head
    refine app ih (q := [x]) (.cons h.symm (fun hm => ?_) (.one _)) fun w hw hw2 => ?_
    · rw [List.mem_singleton.1 hm] at ht; exact hn (by rw [ht]; exact List.mem_cons_self)
    · rw [List.mem_singleton.1 hw2] at hw; exact hn (List.mem_reverse.1 hw)
/-- Two of a way that stand side by side are linked by an edge. -/
theorem adj (h : Way l a b p) (e : p = u ++ x :: y :: v) : Adj l x y := by
  cases h.back e with
  | cons h _ r => obtain ⟨t, ht⟩ := r.head; injection ht with ht _; subst ht; exact h
/-- The nodes of a way are nodes of edges. -/
theorem nodes (hl : ∀ e ∈ l, Node e.a ∧ Node e.b) (ha : Node a) (h : Way l a b p) : ∀ x ∈ p, Node x := by
  induction h with
  | one => intro x hx; rw [List.mem_singleton.1 hx]; exact ha
  | cons h hn r ih =>
    intro x hx
    rcases List.mem_cons.1 hx with rfl | hx
    · exact ha
    · refine ih ?_ x hx
      obtain ⟨e, he, h1⟩ := h
      rcases h1 with ⟨_, rfl⟩ | ⟨rfl, _⟩
      · exact (hl e he).2
      · exact (hl e he).1
end Way
theorem pigeon : ∀ (n : Nat) (l : List Int), l.Nodup → (∀ x ∈ l, 1 ≤ x ∧ x ≤ n) → l.length ≤ n
  | 0, l, _, h => by
    cases l with
    | nil => simp
    | cons x l => have := h x List.mem_cons_self; omega
  | n + 1, l, hn, h => by
    by_cases hm : ((n + 1 : Nat) : Int) ∈ l
    · have h1 := pigeon n (l.erase ((n + 1 : Nat) : Int)) (hn.erase _) (fun x hx => by
        have h2 := (hn.mem_erase_iff).1 hx
        have := h x h2.2
        have := h2.1
        omega)
      rw [List.length_erase_of_mem hm] at h1
      omega
    · have := pigeon n l hn fun x hx => by
        have h1 := h x hx
        have : x ≠ ((n + 1 : Nat) : Int) := fun e => hm (e ▸ hx)
        omega
      omega
theorem Way.short {l : List E} (hl : ∀ e ∈ l, Node e.a ∧ Node e.b) {a b : Int} (ha : Node a) {p : List Int} (h : Way l a b p) : p.length ≤ 64 :=
  pigeon 64 p h.nodup (h.nodes hl ha)
theorem Conn.node {l : List E} (hl : ∀ e ∈ l, Node e.a ∧ Node e.b) {a b : Int} (ha : Node a) (h : Conn l a b) : Node b := by
  obtain ⟨p, hp⟩ := Way.ex h
  exact hp.nodes hl ha b hp.mem_last

/-! ### the edges of a way -/
def OnP (p : List Int) (e : E) : Prop := ∃ u v x y, p = u ++ x :: y :: v ∧ e.has x y
/-- Without an edge that is not on a way it is one still. -/
theorem Way.avoid {l : List E} {a b : Int} {p : List Int} {e : E} (h : Way l a b p) (hn : ¬ OnP p e) : Way (rm l e) a b p := by
  induction h with
  | one => exact .one _
  | cons h hnm r ih =>
    obtain ⟨f, hf, hh⟩ := h
    obtain ⟨t, ht⟩ := r.head
    refine .cons ⟨f, mem_rm.2 ⟨hf, fun e' => hn ?_⟩, hh⟩ hnm (ih fun ⟨u, v, x, y, h1, h2⟩ => hn ⟨_ :: u, v, x, y, by rw [h1]; rfl, h2⟩)
    subst e'
    exact ⟨[], t, _, _, by rw [ht]; rfl, hh⟩
theorem OnP.mem {p : List Int} {e : E} (h : OnP p e) : e.a ∈ p ∧ e.b ∈ p := by
  obtain ⟨u, v, x, y, rfl, h⟩ := h
  rcases h with ⟨rfl, rfl⟩ | ⟨rfl, rfl⟩ <;> simp
/-- The edges of a way in a forest are those without which it is none. -/
theorem on_iff {l : List E} (hc : Cut l) {a b : Int} {p : List Int} (h : Way l a b p) {e : E} (he : e ∈ l) : ¬ Conn (rm l e) a b ↔ OnP p e := by
  constructor
  · intro hn
    by_cases ho : OnP p e
    · exact ho
    · exact absurd (h.avoid ho).conn hn
  · rintro ⟨u, v, x, y, hp, hh⟩ hcon
    have hnd := h.nodup
    rw [hp] at hnd
    have hnd' := List.nodup_append.1 hnd
    have hxy := List.nodup_cons.1 hnd'.2.1
    have h1 : Conn (rm l e) a x := (Way.avoid (e := e) (h.front hp) fun ho => by
      have hy : y ∈ u ++ [x] := by
        rcases hh with ⟨_, h1⟩ | ⟨h1, _⟩
        · exact h1 ▸ ho.mem.2
        · exact h1 ▸ ho.mem.1
      rcases List.mem_append.1 hy with hy | hy
      · exact hnd'.2.2 y hy y (by simp) rfl
      · rw [List.mem_singleton.1 hy] at hxy; exact hxy.1 List.mem_cons_self).conn
    have h2 : Conn (rm l e) y b := (Way.avoid (e := e) (h.back (u := u ++ [x]) (v := v) (by rw [hp]; simp)) fun ho => by
      have hx : x ∈ y :: v := by
        rcases hh with ⟨h1, _⟩ | ⟨_, h1⟩
        · exact h1 ▸ ho.mem.1
        · exact h1 ▸ ho.mem.2
      exact hxy.1 hx).conn
    have h3 : Conn (rm l e) x y := h1.symm.trans (hcon.trans h2.symm)
    rcases hh with ⟨rfl, rfl⟩ | ⟨rfl, rfl⟩
    · exact hc e he h3
    · exact hc e he h3.symm
/-- Where a node of a way stands, its edges lead to the one ahead and to the one behind. -/
theorem OnP.at {p : List Int} (hnd : p.Nodup) {e : E} (h : OnP p e) {k : Nat} {z o : Int} (hz : p[k]? = some z) (ho : e.has z o) : p[k + 1]? = some o ∨ (1 ≤ k ∧ p[k - 1]? = some o) := by
  obtain ⟨u, v, x, y, rfl, hh⟩ := h
  have g1 : (u ++ x :: y :: v)[u.length]? = some x := by simp
  have g2 : (u ++ x :: y :: v)[u.length + 1]? = some y := by rw [List.getElem?_append_right (by omega)]; simp
  have inj : ∀ {i j : Nat} {t : Int}, (u ++ x :: y :: v)[i]? = some t → (u ++ x :: y :: v)[j]? = some t → i = j := fun {i j t} hi hj => by
    obtain ⟨a1, a2⟩ := List.getElem?_eq_some_iff.1 hi
    obtain ⟨b1, b2⟩ := List.getElem?_eq_some_iff.1 hj
    exact (List.getElem_inj (h₀ := a1) (h₁ := b1) hnd).1 (a2.trans b2.symm)
  have : (z = x ∧ o = y) ∨ (z = y ∧ o = x) := by
    rcases hh with ⟨h1, h2⟩ | ⟨h1, h2⟩ <;> rcases ho with ⟨h3, h4⟩ | ⟨h3, h4⟩
    · exact .inl ⟨h3.symm.trans h1, h4.symm.trans h2⟩
    · exact .inr ⟨h4.symm.trans h2, h3.symm.trans h1⟩
    · exact .inr ⟨h3.symm.trans h1, h4.symm.trans h2⟩
    · exact .inl ⟨h4.symm.trans h2, h3.symm.trans h1⟩
  rcases this with ⟨rfl, rfl⟩ | ⟨rfl, rfl⟩
  · have := inj hz g1; subst this; exact .inl g2
  · have := inj hz g2; subst this; exact .inr ⟨by omega, g1⟩
/-- The edge from a node of a way to the one behind. -/
theorem Way.edge {l : List E} {a b : Int} {p : List Int} (h : Way l a b p) {k : Nat} {x y : Int} (hx : p[k]? = some x) (hy : p[k + 1]? = some y) : ∃ e ∈ l, e.has x y ∧ OnP p e := by
  obtain ⟨h1, h2⟩ := List.getElem?_eq_some_iff.1 hx
  obtain ⟨h3, h4⟩ := List.getElem?_eq_some_iff.1 hy
  have hp : p = p.take k ++ x :: y :: p.drop (k + 2) := by
    have e1 : p.drop k = x :: p.drop (k + 1) := by rw [List.drop_eq_getElem_cons h1, h2]
    have e2 : p.drop (k + 1) = y :: p.drop (k + 2) := by rw [List.drop_eq_getElem_cons h3, h4]
    rw [← e2, ← e1, List.take_append_drop]
  obtain ⟨e, he, hh⟩ := h.adj hp
  exact ⟨e, he, hh, _, _, x, y, hp, hh⟩
/-- In a forest there is one way. -/
theorem Way.uniq {l : List E} (hc : Cut l) {a b : Int} {p : List Int} (h : Way l a b p) : ∀ {q : List Int}, Way l a b q → q = p := by
  induction h with
  | one =>
    intro q hq
    cases hq with
    | one => rfl
    | cons h hn r => exact absurd r.mem_last hn
  | cons h hn r ih =>
    rename_i a b' c p
    intro q hq
    cases hq with
    | one => exact absurd r.mem_last hn
    | cons h' hn' r' =>
      rename_i b2 p2
      obtain ⟨e, he, hh⟩ := h
      obtain ⟨e2, he2, hh2⟩ := h'
      by_cases hee : e2 = e
      · subst hee
        have hb : b2 = b' := by
          have n1 : a ≠ b' := fun e' => hn (by rw [e']; exact r.mem_first)
          rcases hh with ⟨h1, h2⟩ | ⟨h1, h2⟩ <;> rcases hh2 with ⟨h3, h4⟩ | ⟨h3, h4⟩
          · exact h4.symm.trans h2
          · exact absurd (h4.symm.trans h2) n1
          · exact absurd (h3.symm.trans h1) n1
          · exact h3.symm.trans h1
        subst hb
        rw [ih r']
      · exfalso
        have av : ∀ {s : Int} {p : List Int}, Way l s c p → a ∉ p → Conn (rm l e) s c := fun {s p} hw hna => (Way.avoid (e := e) hw fun ho => by
          rcases hh with ⟨h1, _⟩ | ⟨_, h1⟩
          · exact hna (h1 ▸ ho.mem.1)
          · exact hna (h1 ▸ ho.mem.2)).conn
        have c1 : Conn (rm l e) b' c := av r hn
        have c2 : Conn (rm l e) b2 c := av r' hn'
        have c3 : Conn (rm l e) a b2 := .one ⟨e2, mem_rm.2 ⟨he2, hee⟩, hh2⟩
        have c4 : Conn (rm l e) a b' := c3.trans (c2.trans c1.symm)
        rcases hh with ⟨rfl, rfl⟩ | ⟨rfl, rfl⟩
        · exact hc e he c4
        · exact hc e he c4.symm
end Go.Proofs.Ytdbnpghckgmaoaa.TP

/- Single operations over the abstract memory, each with the proof that the machine does the same. -/
namespace Go.Proofs.Ytdbnpghckgmaoaa.Ab
set_option linter.unusedVariables false
set_option linter.unusedSimpArgs false
set_option linter.unusedSectionVars false
open Go.RowKit

/-! ### types -/
inductive TK where
  | int (k : IntKind) | bool | str | ptr (e : TypeId) | slice (e : TypeId) | struct (fs : List (Nat × TypeId)) | array (n : Nat) (e : TypeId)
  | map (k e : TypeId) | func | other
structure TD where
  k : TK
  size : Nat
  bytes : Nat
  zero : Value
def tkOf : TypeDesc → TK
  | .int k => .int k
  | .bool => .bool
  | .string => .str
  | .pointer e => .ptr e
  | .slice e => .slice e
  | .struct fs => .struct (fs.toList.map fun f => (f.offset, f.type))
  | .array n e => .array n e
  | .map k e => .map k e
  | .func .. => .func
  | _ => .other
def tdOf (P : Program) (t : TypeId) : Option TD :=
  match P.underlying t, P.info? t with
  | some d, some i => match i.zero with
    | some z => some ⟨tkOf d, i.size, i.bytes, z⟩
    | none => none
  | _, _ => none
def TD.agg (td : TD) : Bool :=
  match td.k with
  | .struct _ | .array _ _ => true
  | _ => false

section
variable {P : Program} {t : TypeId} {td : TD}
theorem td_parts (h : tdOf P t = some td) : ∃ d i, P.underlying t = some d ∧ P.info? t = some i ∧ i.zero = some td.zero ∧ td.k = tkOf d ∧ td.size = i.size ∧ td.bytes = i.bytes := by
  unfold tdOf at h
  split at h
  · rename_i d i hd hi
    split at h
    · rename_i z hz
      obtain rfl := Option.some.inj h
      exact ⟨d, i, hd, hi, hz, rfl, rfl, rfl⟩
    · cases h
  · cases h
variable (h : tdOf P t = some td) (w : World)
include h
theorem td_size : (sizeOf t).run P w = .ok td.size w := by
  obtain ⟨d, i, hd, hi, hz, hk, hs, hb⟩ := td_parts h
  simp [sizeOf, typeInfo, hi, hs]
theorem td_agg : (isAgg t).run P w = .ok td.agg w := by
  obtain ⟨d, i, hd, hi, hz, hk, hs, hb⟩ := td_parts h
  simp only [isAgg, Sem.run_bind, run_underlying hd, Result.andThen_ok, TD.agg, hk]
  cases d <;> simp [tkOf]
theorem td_zero : (zeroValue t).run P w = .ok td.zero w := by
  obtain ⟨d, i, hd, hi, hz, hk, hs, hb⟩ := td_parts h
  simp [zeroValue, typeInfo, hi, hz]
theorem td_info : ∃ i, (typeInfo t).run P w = .ok i w ∧ i.bytes = td.bytes ∧ i.size = td.size := by
  obtain ⟨d, i, hd, hi, hz, hk, hs, hb⟩ := td_parts h
  exact ⟨i, by simp [typeInfo, hi], hb.symm, hs.symm⟩
theorem td_slice {e : TypeId} (hk : td.k = .slice e) : P.underlying t = some (.slice e) := by
  obtain ⟨d, i, hd, hi, hz, hk', hs, hb⟩ := td_parts h
  rw [hk'] at hk; rw [hd]; cases d <;> simp_all [tkOf]
theorem td_array {n : Nat} {e : TypeId} (hk : td.k = .array n e) : P.underlying t = some (.array n e) := by
  obtain ⟨d, i, hd, hi, hz, hk', hs, hb⟩ := td_parts h
  rw [hk'] at hk; rw [hd]; cases d <;> simp_all [tkOf]
theorem td_map {k e : TypeId} (hk : td.k = .map k e) : P.underlying t = some (.map k e) := by
  obtain ⟨d, i, hd, hi, hz, hk', hs, hb⟩ := td_parts h
  rw [hk'] at hk; rw [hd]; cases d <;> simp_all [tkOf]
theorem td_int {k : IntKind} (hk : td.k = .int k) : P.underlying t = some (.int k) := by
  obtain ⟨d, i, hd, hi, hz, hk', hs, hb⟩ := td_parts h
  rw [hk'] at hk; rw [hd]; cases d <;> simp_all [tkOf]
theorem td_str (hk : td.k = .str) : P.underlying t = some .string := by
  obtain ⟨d, i, hd, hi, hz, hk', hs, hb⟩ := td_parts h
  rw [hk'] at hk; rw [hd]; cases d <;> simp_all [tkOf]
theorem td_bool (hk : td.k = .bool) : P.underlying t = some .bool := by
  obtain ⟨d, i, hd, hi, hz, hk', hs, hb⟩ := td_parts h
  rw [hk'] at hk; rw [hd]; cases d <;> simp_all [tkOf]
theorem td_ptr {e : TypeId} (hk : td.k = .ptr e) : P.underlying t = some (.pointer e) := by
  obtain ⟨d, i, hd, hi, hz, hk', hs, hb⟩ := td_parts h
  rw [hk'] at hk; rw [hd]; cases d <;> simp_all [tkOf]
theorem td_func (hk : td.k = .func) : ∃ a b c, P.underlying t = some (.func a b c) := by
  obtain ⟨d, i, hd, hi, hz, hk', hs, hb⟩ := td_parts h
  rw [hk'] at hk; rw [hd]; cases d <;> simp_all [tkOf]
theorem td_struct {fs : List (Nat × TypeId)} (hk : td.k = .struct fs) : ∃ gs : Array Field, P.underlying t = some (.struct gs) ∧ gs.toList.map (fun f => (f.offset, f.type)) = fs := by
  obtain ⟨d, i, hd, hi, hz, hk', hs, hb⟩ := td_parts h
  rw [hk'] at hk; rw [hd]; cases d <;> simp_all [tkOf]
end

theorem addr_add (b o n : Nat) : (⟨b, o, none⟩ : Addr).add n = ⟨b, o + n, none⟩ := Addr.add_lit b o n

/-! ### what a value's shape says of what stands for it -/
section inv
variable {ρ : Ren} {x y : Value}
theorem VR.toB (h : VR ρ x y) (hx : ∀ cs, x ≠ .tuple cs) : VB ρ x y := by
  cases h with
  | v h => exact h
  | tup => exact absurd rfl (hx _)
theorem VB.to1 (h : VB ρ x y) (hx : ∀ cs, x ≠ .agg cs) : V1 ρ x y := by
  cases h with
  | v h => exact h
  | agg => exact absurd rfl (hx _)
theorem VR.to1 (h : VR ρ x y) (hx : x.oneCell' = true) : V1 ρ x y :=
  (h.toB fun _ e => by subst e; cases hx).to1 fun _ e => by subst e; cases hx
theorem V1.toA (h : V1 ρ x y) (hx : ∀ f a b, x ≠ .func f a b) : VA ρ x y := by
  cases h with
  | a h => exact h
  | fn => exact absurd rfl (hx _ _ _)
theorem VR.toA (h : VR ρ x y) (hx : x.oneCell' = true) (hf : ∀ f a b, x ≠ .func f a b) : VA ρ x y := (h.to1 hx).toA hf
theorem VR.int {k n} (h : VR ρ (.int k n) y) : y = .int k n := by cases h.toA rfl (by simp); rfl
theorem VR.bool {b} (h : VR ρ (.bool b) y) : y = .bool b := by cases h.toA rfl (by simp); rfl
theorem VR.str {b} (h : VR ρ (.string b) y) : y = .string b := by cases h.toA rfl (by simp); rfl
theorem VR.nilp (h : VR ρ (.pointer none) y) : y = .pointer none := by cases h.toA rfl (by simp); rfl
theorem VR.ptr {a} (h : VR ρ (.pointer (some a)) y) : ∃ l, a.spot = none ∧ ρ a.block = some l ∧ y = .pointer (some ⟨l.B, l.o + a.off, none⟩) := by
  cases h.toA rfl (by simp) with
  | ptr h' => exact ⟨_, rfl, h', rfl⟩
theorem VR.nils {n c} (h : VR ρ (.slice none n c) y) : n = 0 ∧ c = 0 ∧ y = .slice none 0 0 := by cases h.toA rfl (by simp); exact ⟨rfl, rfl, rfl⟩
theorem VR.slice {a n c} (h : VR ρ (.slice (some a) n c) y) : ∃ l A cap, (c ≤ cap ∧ (a.spot = none ∨ cap = c)) ∧ ρ a.block = some l ∧ n ≤ cap ∧ a.off + cap * l.sz ≤ l.K ∧ (cap = 0 ∨ A = ⟨l.B, l.o + a.off, none⟩) ∧ y = .slice (some A) n cap := by
  cases h.toA rfl (by simp) with
  | sl h' a b c d e => exact ⟨_, _, _, ⟨d, e⟩, h', a, b, c, rfl⟩
theorem VR.agg {cs} (h : VR ρ (.agg cs) y) : ∃ cs', y = .agg cs' ∧ All2 (V1 ρ) cs.toList cs'.toList := by
  have hb := h.toB (by simp)
  cases hb with
  | v h => cases h with | a h => cases h
  | agg h' => exact ⟨_, rfl, h'⟩
theorem VR.tup' {cs} (h : VR ρ (.tuple cs) y) : ∃ cs', y = .tuple cs' ∧ All2 (VB ρ) cs.toList cs'.toList := by
  cases h with
  | v h => cases h with | v h => cases h with | a h => cases h
  | tup h => exact ⟨_, rfl, h⟩
theorem VR.func {f fs cs} (h : VR ρ (.func f fs cs) y) : ∃ fs' cs', y = .func f fs' cs' ∧ All2 (VA ρ) fs.toList fs'.toList ∧ All2 (VA ρ) cs.toList cs'.toList := by
  cases h.to1 rfl with
  | a h => cases h
  | fn h1 h2 => exact ⟨_, _, rfl, h1, h2⟩
theorem VR.nilf (h : VR ρ .nilFunc y) : y = .nilFunc := by
  cases h.to1 rfl with
  | a h => cases h; rfl
theorem VR.map {r} (h : VR ρ (.map (some r)) y) : ∃ l, ρ r = some l ∧ y = .map (some l.B) := by
  cases h.toA rfl (by simp) with
  | map h' => exact ⟨_, h', rfl⟩
theorem VR.nilm (h : VR ρ (.map none) y) : y = .map none := by cases h.toA rfl (by simp); rfl
theorem VR.one (h : V1 ρ x y) : VR ρ x y := .v (.v h)
theorem VR.atom (h : VA ρ x y) : VR ρ x y := .v (.v (.a h))
end inv

/-! ### load and store -/
def aload (P : Program) (t : TypeId) (s : AHeap) (v : Value) : Option Value :=
  match tdOf P t, v with
  | some td, .pointer (some a) => match s a.block with
    | some (.cells _ _ c) =>
      if td.agg then (if a.off + td.size ≤ c.length then some (.agg ((c.drop a.off).take td.size).toArray) else none) else c[a.off]?
    | _ => none
  | _, _ => none

section
variable {P : Program} {W0 w : World} {ρ : Ren} {s : AHeap}

theorem Sim.cellsAt (hS : Sim W0 ρ s w) {id rw sz c} (hs : s id = some (.cells rw sz c)) : ∃ l, ρ id = some l ∧ l.sz = sz ∧
    (∀ i v, c[i]? = some v → ∃ v', w.cell? ⟨l.B, l.o + i, none⟩ = some v' ∧ V1 ρ v v') :=
  let ⟨l, hl, hr⟩ := hS.rep id _ hs; ⟨l, hl, hr.1, hr.2.1⟩

/-- A row of cells, read. -/
theorem Sim.row (hS : Sim W0 ρ s w) {id rw sz c} (hs : s id = some (.cells rw sz c)) {off n : Nat} (hn : off + n ≤ c.length) : ∃ l, ρ id = some l ∧ l.sz = sz ∧
    ∃ cs' : List Value, All2 (V1 ρ) ((c.drop off).take n) cs' ∧ cs'.length = n ∧ (∀ (j : Nat) v, cs'[j]? = some v → w.cell? ((⟨l.B, l.o + off, none⟩ : Addr).add j) = some v) := by
  obtain ⟨l, hl, hz, hc⟩ := hS.cellsAt hs
  refine ⟨l, hl, hz, ?_⟩
  have hx : ∀ i, i < c.length → ∃ v', w.cell? ⟨l.B, l.o + i, none⟩ = some v' ∧ V1 ρ (c.getD i default) v' := fun i hi => by
    obtain ⟨v', a, b⟩ := hc i c[i] (by simp [hi])
    exact ⟨v', a, by simpa [List.getD, hi] using b⟩
  refine ⟨(List.range n).map fun j => (w.cell? ⟨l.B, l.o + (off + j), none⟩).getD default, ?_, by simp, ?_⟩
  · refine All2.of_get (by simp; omega) fun i a b ha hb => ?_
    have hi : i < n := by
      rcases Nat.lt_or_ge i n with h | h
      · exact h
      · rw [List.getElem?_eq_none (by simp; omega)] at hb; cases hb
    rw [List.getElem?_take_of_lt hi, List.getElem?_drop] at ha
    obtain ⟨v', e1, e2⟩ := hc _ _ ha
    simp [hi, e1] at hb
    subst hb; exact e2
  · intro j v hv
    have hj : j < n := by
      rcases Nat.lt_or_ge j n with h | h
      · exact h
      · rw [List.getElem?_eq_none (by simp; omega)] at hv; cases hv
    obtain ⟨v', e1, _⟩ := hx (off + j) (by omega)
    simp [hj, e1] at hv
    rw [addr_add, Nat.add_assoc, e1, hv]

theorem load_sound (hS : Sim W0 ρ s w) {t v v' x} (hv : VR ρ v v') (h : aload P t s v = some x) : ∃ x', (Instr.loadAt t v').run P w = .ok x' w ∧ VB ρ x x' := by
  unfold aload at h
  split at h
  case h_2 => cases h
  rename_i td a ht
  split at h
  case h_2 => cases h
  rename_i rw sz c hs
  obtain ⟨l, hsp, hl, rfl⟩ := hv.ptr
  have ha := td_agg ht w
  split at h
  · rename_i hagg
    split at h
    case isFalse => cases h
    rename_i hle
    obtain rfl := Option.some.inj h
    obtain ⟨l', hl', hz, cs', h2, hlen, hc⟩ := hS.row hs hle
    obtain rfl : l = l' := by rw [hl] at hl'; exact Option.some.inj hl'
    refine ⟨.agg cs'.toArray, ?_, .agg (by simpa using h2)⟩
    have hr := run_loadCells_list (P := P) w ⟨l.B, l.o + a.off, none⟩ cs' hc
    rw [hlen] at hr
    simp [Instr.loadAt, Instr.sureAddr, loadVar, ha, hagg, td_size ht w, hr]
  · rename_i hagg
    obtain ⟨l', hl', hz, hc⟩ := hS.cellsAt hs
    obtain rfl : l = l' := by rw [hl] at hl'; exact Option.some.inj hl'
    obtain ⟨v', e1, e2⟩ := hc _ _ h
    refine ⟨v', ?_, .v e2⟩
    simp [Instr.loadAt, Instr.sureAddr, loadVar, ha, hagg, e1]

def notTup : Value → Bool
  | .tuple _ => false
  | _ => true
/-- 'vs' laid over 'c' from 'off' on. -/
def splice (c : List Value) (off : Nat) : List Value → List Value
  | [] => c
  | v :: r => splice (c.set off v) (off + 1) r
theorem splice_length (c : List Value) (off : Nat) (vs : List Value) : (splice c off vs).length = c.length := by
  induction vs generalizing c off with
  | nil => rfl
  | cons v r ih => rw [splice, ih, List.length_set]

def astore (P : Program) (t : TypeId) (s : AHeap) (v x : Value) : Option AHeap :=
  match tdOf P t, v with
  | some td, .pointer (some a) => match s a.block with
    | some (.cells true sz c) =>
      if x.cells.size = td.size ∧ a.off + td.size ≤ c.length ∧ notTup x = true then some (s.set a.block (.cells true sz (splice c a.off x.cells.toList))) else none
    | _ => none
  | _, _ => none

theorem Sim.storeMany {id sz l} (hl : ρ id = some l) : ∀ (vs vs' : List Value) (c : List Value) (off : Nat) (s : AHeap) (w : World), Sim W0 ρ s w → s id = some (.cells true sz c) →
    All2 (V1 ρ) vs vs' → off + vs.length ≤ c.length →
    (∀ j, j < vs'.length → (w.cell? ⟨l.B, l.o + off + j, none⟩).isSome = true) ∧ (∀ j, j < vs'.length → w.frozen? ⟨l.B, l.o + off + j, none⟩ = false) ∧
    Sim W0 ρ (s.set id (.cells true sz (splice c off vs))) (w.setCells l.B (l.o + off) vs') := by
  intro vs
  induction vs with
  | nil =>
    intro vs' c off s w hS hs h2 hle
    cases h2
    refine ⟨by simp, by simp, ?_⟩
    have : s.set id (.cells true sz c) = s := by funext i; simp only [AHeap.set]; split <;> simp_all
    simpa [splice, World.setCells, this] using hS
  | cons v r ih =>
    intro vs' c off s w hS hs h2 hle
    cases h2 with
    | cons hv hr =>
    rename_i v' r'
    simp only [List.length_cons] at hle
    obtain ⟨e1, e2, e3⟩ := hS.store hs hl (i := off) (by omega) hv
    obtain ⟨f1, f2, f3⟩ := ih r' (c.set off v) (off + 1) _ _ e3 (AHeap.set_same _ _ _) hr (by simp; omega)
    refine ⟨?_, ?_, ?_⟩
    · intro j hj
      cases j with
      | zero => exact e1
      | succ j =>
        have := f1 j (by simpa using hj)
        rw [World.cell?_setCell_other (h := by simp; omega)] at this
        rwa [show l.o + (off + 1) + j = l.o + off + (j + 1) by omega] at this
    · intro j hj
      cases j with
      | zero => exact e2
      | succ j =>
        have := f2 j (by simpa using hj)
        rw [World.frozen?_setCell] at this
        rwa [show l.o + (off + 1) + j = l.o + off + (j + 1) by omega] at this
    · rw [AHeap.set_set] at f3
      exact f3

theorem store_sound (hS : Sim W0 ρ s w) {t v v' x x' s'} (hv : VR ρ v v') (hx : VR ρ x x') (h : astore P t s v x = some s') :
    ∃ w', (Instr.storeAt t v' x').run P w = .ok () w' ∧ Sim W0 ρ s' w' := by
  unfold astore at h
  split at h
  case h_2 => cases h
  rename_i td a ht
  split at h
  case h_2 => cases h
  rename_i sz c hs
  split at h
  case isFalse => cases h
  rename_i hc
  obtain ⟨hc1, hc2, hc3⟩ := hc
  obtain rfl := Option.some.inj h
  obtain ⟨l, hsp, hl, rfl⟩ := hv.ptr
  have hb := (hx.toB fun b e => by subst e; cases hc3).cells
  have hlen := hb.length
  simp only [Array.length_toList] at hlen
  obtain ⟨f1, f2, f3⟩ := Sim.storeMany hl _ _ c a.off s w hS hs hb (by simpa using by omega)
  refine ⟨_, ?_, f3⟩
  have h1 : ∀ y ∈ x'.cells.toList, y.oneCell' = true := fun y hy => by
    have h : ∀ {l l' : List Value}, All2 (V1 ρ) l l' → ∀ y ∈ l', y.oneCell' = true := by
      intro l l' h
      induction h with
      | nil => intro y hy; cases hy
      | cons a r ih => intro y hy; rcases List.mem_cons.1 hy with rfl | hy
                       · exact a.oneCell
                       · exact ih y hy
    exact h hb y hy
  have hst := run_storeCells_cells (P := P) l.B (l.o + a.off) x'.cells.toList 0 w (by simpa using f1) (by simpa using f2) h1
  simp only [Nat.add_zero] at hst
  simp [Instr.storeAt, Instr.sureAddr, storeVar, td_size ht w, ← hlen, hc1, hst]

/-! ### addresses -/
def afield (P : Program) (t : TypeId) (v : Value) (f : Nat) : Option Value :=
  match tdOf P t, v with
  | some td, .pointer (some a) => match td.k with
    | .struct fs => match fs[f]? with
      | some (o, ft) => match tdOf P ft with
        | some tf => if tf.size ≠ 0 then some (.pointer (some ⟨a.block, a.off + o, none⟩)) else none
        | none => none
      | none => none
    | _ => none
  | _, _ => none
theorem field_sound {t v v' f x} (hv : VR ρ v v') (h : afield P t v f = some x) : ∃ x', (Instr.fieldAt t v' f).run P w = .ok x' w ∧ VR ρ x x' := by
  unfold afield at h
  split at h
  case h_2 => cases h
  rename_i td a ht
  split at h
  case h_2 => cases h
  rename_i fs hk
  split at h
  case h_2 => cases h
  rename_i o ft hf
  split at h
  case h_2 => cases h
  rename_i tf htf
  split at h
  case isFalse => cases h
  rename_i hsz
  obtain rfl := Option.some.inj h
  obtain ⟨l, hsp, hl, rfl⟩ := hv.ptr
  obtain ⟨gs, hg, rfl⟩ := td_struct ht hk
  rw [List.getElem?_map] at hf
  cases hgf : gs.toList[f]? with
  | none => rw [hgf] at hf; cases hf
  | some g =>
  rw [hgf] at hf
  simp only [Option.map_some, Option.some.injEq, Prod.mk.injEq] at hf
  obtain ⟨rfl, rfl⟩ := hf
  have hgf' : gs[f]? = some g := by simpa using hgf
  refine ⟨.pointer (some ⟨l.B, l.o + (a.off + g.offset), none⟩), ?_, .atom (.ptr hl)⟩
  simp only [Instr.fieldAt, Sem.run_bind, run_underlying hg, Result.andThen_ok, hgf', Instr.sureAddr, Sem.run_pure]
  simp [fieldPlace, td_size htf w, hsz, addr_add, Nat.add_assoc]

def aindexAddr (P : Program) (t : TypeId) (v x : Value) : Option Value :=
  match tdOf P t, x with
  | some td, .int _ i => match td.k, v with
    | .slice e, .slice (some a) n _ => match tdOf P e with
      | some te => if 0 ≤ i ∧ i < n then some (.pointer (some ⟨a.block, a.off + i.toNat * te.size, none⟩)) else none
      | none => none
    | .array n e, .pointer (some a) => match tdOf P e with
      | some te => if 0 ≤ i ∧ i < n then some (.pointer (some ⟨a.block, a.off + i.toNat * te.size, none⟩)) else none
      | none => none
    | _, _ => none
  | _, _ => none
theorem indexAddr_sound {t v v' y y' x} (hv : VR ρ v v') (hy : VR ρ y y') (h : aindexAddr P t v y = some x) : ∃ x', (Instr.indexAt t v' y').run P w = .ok x' w ∧ VR ρ x x' := by
  unfold aindexAddr at h
  split at h
  case h_2 => cases h
  rename_i td k i ht
  obtain rfl := hy.int
  split at h
  · rename_i e a n c hk
    split at h
    case h_2 => cases h
    rename_i te hte
    split at h
    case isFalse => cases h
    rename_i hi
    obtain rfl := Option.some.inj h
    obtain ⟨l, A, cap, hsp, hl, hle, hK, hA, rfl⟩ := hv.slice
    have hA' : A = ⟨l.B, l.o + a.off, none⟩ := hA.resolve_left (by omega)
    subst hA'
    refine ⟨.pointer (some ⟨l.B, l.o + (a.off + i.toNat * te.size), none⟩), ?_, .atom (.ptr hl)⟩
    simp only [Instr.indexAt, asIntOf, Sem.run_bind, Sem.run_pure, Result.andThen_ok, run_underlying (td_slice ht hk)]
    simp [hi, td_size hte w, addr_add, Nat.add_assoc]
  · rename_i n e a hk
    split at h
    case h_2 => cases h
    rename_i te hte
    split at h
    case isFalse => cases h
    rename_i hi
    obtain rfl := Option.some.inj h
    obtain ⟨l, hsp, hl, rfl⟩ := hv.ptr
    refine ⟨.pointer (some ⟨l.B, l.o + (a.off + i.toNat * te.size), none⟩), ?_, .atom (.ptr hl)⟩
    simp only [Instr.indexAt, asIntOf, Sem.run_bind, Sem.run_pure, Result.andThen_ok, run_underlying (td_array ht hk), Instr.sureAddr]
    simp [hi, td_size hte w, addr_add, Nat.add_assoc]
  · cases h
end
end Go.Proofs.Ytdbnpghckgmaoaa.Ab

/- Sets that only grow together: how the lists of parents, sizes and least ones stand to the document's list of least ones. -/
namespace Go.Proofs.Ytdbnpghckgmaoaa.JP
set_option linter.unusedVariables false
set_option linter.unusedSimpArgs false
set_option linter.unusedSectionVars false

def cnt (w : List Int) (v : Int) : Nat := ((List.range w.length).filter fun i => g w (i : Nat) = v).length
def fix (w : List Int) : Nat := ((List.range w.length).filter fun i => 1 ≤ i ∧ g w (i : Nat) = (i : Int)).length

def rhas (w : List Int) (a : Int) : Prop := 1 ≤ a ∧ a < w.length
instance (w : List Int) (a : Int) : Decidable (rhas w a) := by unfold rhas; infer_instance
def lo (w : List Int) (a b : Int) : Int := if g w b < g w a then g w b else g w a
def hi (w : List Int) (a b : Int) : Int := if g w b < g w a then g w a else g w b
def glue (w : List Int) (l h : Int) : List Int := (List.range w.length).map fun i => if 0 < i ∧ g w (i : Nat) = h then l else g w (i : Nat)
def runite (w : List Int) (a b : Int) : List Int × Bool :=
  if rhas w a ∧ rhas w b ∧ g w a ≠ g w b then (glue w (lo w a b) (hi w a b), true) else (w, false)

/-- A list of least ones. -/
structure WOk (w : List Int) : Prop where
  zero : g w 0 = 0
  pos : 0 < w.length
  low : ∀ x, In w x → 1 ≤ x → 1 ≤ g w x
  le : ∀ x, In w x → 0 ≤ g w x ∧ g w x ≤ x
  idem : ∀ x, In w x → g w (g w x) = g w x

structure JInv (m : Int → Nat) (U S L : List Int) (k : Int) (w : List Int) : Prop where
  wf : Wf m U
  lu : U.length = w.length
  ls : S.length = w.length
  ll : L.length = w.length
  wok : WOk w
  rep : ∀ x r, In w x → Root U x r → g L r = g w x ∧ g S r = (cnt w (g w x) : Nat)
  same : ∀ x y r q, In w x → In w y → Root U x r → Root U y q → (r = q ↔ g w x = g w y)
  sets : k = (fix w : Nat)

theorem cnt_le (w : List Int) (v : Int) : cnt w v ≤ w.length := by
  unfold cnt; exact Nat.le_trans (List.length_filter_le _ _) (by simp)
theorem fix_le (w : List Int) : fix w ≤ w.length := by
  unfold fix; exact Nat.le_trans (List.length_filter_le _ _) (by simp)

theorem g_map_range (n : Nat) (f : Nat → Int) {x : Int} (h0 : 0 ≤ x) (h : x < n) : g ((List.range n).map f) x = f x.toNat := by
  have : x.toNat < n := by omega
  simp [g, List.getD, this]
theorem glue_length (w l h) : (glue w l h).length = w.length := by simp [glue]
theorem glue_g {w : List Int} {l h x : Int} (hx : In w x) : g (glue w l h) x = if 0 < x ∧ g w x = h then l else g w x := by
  unfold glue
  rw [g_map_range _ _ hx.1 hx.2]
  have e : ((x.toNat : Nat) : Int) = x := by have := hx.1; omega
  rw [e]
  have : (0 < x.toNat) ↔ (0 < x) := by omega
  simp only [this]

/-- The roots stay when a way is halved, so all that is told stays. -/
theorem JInv.top {m : Int → Nat} {U S L : List Int} {k : Int} {w : List Int} (h : JInv m U S L k w) {a : Int} (ha : In w a) :
    JInv m (topS (m a) U a).1 S L k w ∧ Root (topS (m a) U a).1 a (topS (m a) U a).2 ∧ Root U a (topS (m a) U a).2 ∧ (∀ x r, In w x → Root U x r → Root (topS (m a) U a).1 x r) := by
  have hin : ∀ x, In U x ↔ In w x := fun x => by simp [In, h.lu]
  obtain ⟨t1, t2, t3, t4⟩ := topS_spec (m a) h.wf ((hin a).2 ha) (Nat.le_refl _)
  have back : ∀ x r, In w x → Root (topS (m a) U a).1 x r → Root U x r := fun x r hx hr => by
    obtain ⟨q, hq⟩ := Root.ex h.wf _ x (Nat.lt_succ_self _) ((hin x).2 hx)
    rw [(t3 x q ((hin x).2 hx) hq).uniq hr]; exact hq
  refine ⟨⟨t1, t2.trans h.lu, h.ls, h.ll, h.wok, fun x r hx hr => h.rep x r hx (back x r hx hr), fun x y r q hx hy hr hq => h.same x y r q hx hy (back x r hx hr) (back y q hy hq), h.sets⟩, t3 a _ ((hin a).2 ha) t4, t4, fun x r hx hr => t3 x r ((hin x).2 hx) hr⟩

theorem filter_split {α : Type} (p q : α → Bool) (l : List α) (h : ∀ x ∈ l, ¬ (p x = true ∧ q x = true)) : (l.filter fun x => p x || q x).length = (l.filter p).length + (l.filter q).length := by
  induction l with
  | nil => rfl
  | cons a l ih =>
    have ih' := ih fun x hx => h x (by simp [hx])
    have ha := h a (by simp)
    simp only [List.filter_cons]
    cases hp : p a <;> cases hq : q a <;> simp_all <;> omega

theorem cnt_pos {w : List Int} {x : Int} (hx : In w x) : 0 < cnt w (g w x) := by
  unfold cnt
  refine List.length_pos_iff.2 (List.ne_nil_of_mem (a := x.toNat) (List.mem_filter.2 ⟨?_, ?_⟩))
  · have := hx.1; have := hx.2; simp; omega
  · have : ((x.toNat : Nat) : Int) = x := by have := hx.1; omega
    simp [this]

section
variable {w : List Int} {l h : Int} (hw : WOk w) (hl : 1 ≤ l) (hlh : l < h) (hli : In w l) (hhi : In w h) (hgl : g w l = l) (hgh : g w h = h)
include hw hl hlh hli hhi hgl hgh
theorem glue_ok : WOk (glue w l h) := by
  have hin : ∀ x, In (glue w l h) x ↔ In w x := fun x => by simp [In, glue_length]
  refine ⟨?_, by rw [glue_length]; exact hw.pos, ?_, ?_, ?_⟩
  · have : In w 0 := ⟨by omega, by have := hw.pos; omega⟩
    rw [glue_g this]; simp [hw.zero]
  · intro x hx h1
    rw [hin] at hx; rw [glue_g hx]; split
    · exact hl
    · exact hw.low x hx h1
  · intro x hx
    rw [hin] at hx; rw [glue_g hx]
    have := hw.le x hx
    split
    · rename_i hc; omega
    · exact this
  · intro x hx
    rw [hin] at hx
    have h1 := hw.le x hx
    have hgx : In w (g w x) := ⟨h1.1, by have := hx.2; omega⟩
    rw [glue_g hx]
    split
    · rw [glue_g hli, hgl]; split <;> omega
    · rename_i hc
      rw [glue_g hgx, hw.idem x hx]
      split
      · rename_i hd
        exfalso
        by_cases hx0 : 0 < x
        · exact hc ⟨hx0, hd.2⟩
        · obtain rfl : x = 0 := by have := hx.1; omega
          rw [hw.zero] at hd; omega
      · rfl
theorem glue_val {x : Int} (hx : In w x) : g (glue w l h) x = if g w x = h then l else g w x := by
  rw [glue_g hx]
  by_cases h1 : g w x = h
  · have : 0 < x := by
      by_cases hx0 : 0 < x
      · exact hx0
      · obtain rfl : x = 0 := by have := hx.1; omega
        rw [hw.zero] at h1; omega
    rw [if_pos ⟨this, h1⟩, if_pos h1]
  · rw [if_neg (fun h => h1 h.2), if_neg h1]
theorem glue_cnt_l : cnt (glue w l h) l = cnt w l + cnt w h := by
  unfold cnt
  rw [glue_length, ← filter_split]
  · congr 1
    refine List.filter_congr fun i hi => ?_
    have hi' : In w (i : Nat) := ⟨by omega, by simpa using hi⟩
    rw [glue_val hw hl hlh hli hhi hgl hgh hi']
    by_cases h1 : g w (i : Nat) = h
    · simp [h1]
    · simp [h1]
  · intro x _ hc
    simp only [decide_eq_true_eq] at hc
    omega
theorem glue_cnt_o {v : Int} (h1 : v ≠ l) (h2 : v ≠ h) : cnt (glue w l h) v = cnt w v := by
  unfold cnt
  rw [glue_length]
  congr 1
  refine List.filter_congr fun i hi => ?_
  have hi' : In w (i : Nat) := ⟨by omega, by simpa using hi⟩
  rw [glue_val hw hl hlh hli hhi hgl hgh hi']
  by_cases h3 : g w (i : Nat) = h
  · simp [h3, Ne.symm h1, Ne.symm h2]
  · simp [h3]
theorem glue_fix : fix (glue w l h) + 1 = fix w := by
  unfold fix
  rw [glue_length]
  have e : (List.range w.length).filter (fun i => decide (1 ≤ i ∧ g w (i : Nat) = (i : Int))) = (List.range w.length).filter (fun i => decide (1 ≤ i ∧ g (glue w l h) (i : Nat) = (i : Int)) || decide (i = h.toNat)) := by
    refine List.filter_congr fun i hi => ?_
    have hi' : In w (i : Nat) := ⟨by omega, by simpa using hi⟩
    rw [glue_val hw hl hlh hli hhi hgl hgh hi', Bool.eq_iff_iff]
    simp only [decide_eq_true_eq, Bool.or_eq_true]
    by_cases h3 : g w (i : Nat) = h
    · rw [if_pos h3]
      constructor
      · rintro ⟨a, b⟩; exact .inr (by omega)
      · rintro (⟨a, b⟩ | b)
        · exfalso
          rw [← b] at h3; omega
        · exact ⟨by omega, by omega⟩
    · rw [if_neg h3]
      constructor
      · exact .inl
      · rintro (a | b)
        · exact a
        · exfalso
          have : ((i : Nat) : Int) = h := by have := hhi.1; omega
          rw [this] at h3; exact h3 hgh
  rw [e, filter_split]
  · have : (List.range w.length).filter (fun i => decide (i = h.toNat)) = [h.toNat] := by
      have hlt : h.toNat < w.length := by have := hhi.1; have := hhi.2; omega
      generalize w.length = n at hlt
      induction n with
      | zero => omega
      | succ n ih =>
        rw [List.range_succ, List.filter_append]
        by_cases e : h.toNat = n
        · have : (List.range n).filter (fun i => decide (i = h.toNat)) = [] := by
            refine List.filter_eq_nil_iff.2 fun x hx => ?_
            simp at hx ⊢; omega
          rw [this]; simp [e]
        · rw [ih (by omega)]
          have : n ≠ h.toNat := by omega
          simp [this]
    rw [this]; rfl
  · intro i hi hc
    simp only [decide_eq_true_eq] at hc
    obtain ⟨⟨a, b⟩, c⟩ := hc
    have hi' : In w (i : Nat) := ⟨by omega, by simpa using hi⟩
    have e2 : ((i : Nat) : Int) = h := by have := hhi.1; omega
    rw [glue_val hw hl hlh hli hhi hgl hgh hi', e2, hgh, if_pos rfl] at b
    omega
end

open Classical in
/-- A root is hung under another one. -/
theorem hang {m : Int → Nat} {U : List Int} (hw : Wf m U) {p q : Int} (hp : In U p) (hq : In U q) (hpp : g U p = p) (hqq : g U q = q) (hne : p ≠ q) :
    ∃ m', Wf m' (U.set q.toNat p) ∧ ∀ x r, In U x → Root U x r → Root (U.set q.toNat p) x (if r = q then p else r) := by
  have e1 : g (U.set q.toNat p) q = p := g_set_same hq
  have e2 : ∀ x, 0 ≤ x → x ≠ q → g (U.set q.toNat p) x = g U x := fun x hx h => g_set_other hq.1 hx h
  have hin : ∀ x, In (U.set q.toNat p) x ↔ In U x := fun x => by simp [In]
  refine ⟨fun x => if Root U x q then m x + m p + 1 else m x, fun i hi => ?_, ?_⟩
  · rw [hin] at hi
    rw [hin]
    by_cases e : i = q
    · subst e
      rw [e1]
      refine ⟨hp, .inr ?_⟩
      have h1 : ¬ Root U p i := fun h => by cases h with
        | here _ => exact hne rfl
        | up h _ => exact h hpp
      have h2 : Root U i i := .here hqq
      show (if Root U p i then m p + m p + 1 else m p) < (if Root U i i then m i + m p + 1 else m i)
      rw [if_neg h1, if_pos h2]; omega
    · rw [e2 i hi.1 e]
      obtain ⟨h1, h2⟩ := hw i hi
      refine ⟨h1, ?_⟩
      by_cases h3 : g U i = i
      · exact .inl h3
      · refine .inr ?_
        have h4 := h2.resolve_left h3
        have h5 : Root U i q ↔ Root U (g U i) q := ⟨fun h => by cases h with
          | here h => exact absurd h h3
          | up _ h => exact h, fun h => .up h3 h⟩
        show (if Root U (g U i) q then m (g U i) + m p + 1 else m (g U i)) < (if Root U i q then m i + m p + 1 else m i)
        by_cases h6 : Root U i q
        · rw [if_pos h6, if_pos (h5.1 h6)]; omega
        · rw [if_neg h6, if_neg (fun h => h6 (h5.2 h))]; exact h4
  · intro x r hx hr
    have hpr : Root (U.set q.toNat p) p p := .here (by rw [e2 p hp.1 hne]; exact hpp)
    induction hr with
    | @here a h =>
      by_cases e : a = q
      · rw [if_pos e]; subst e
        exact .up (by rw [e1]; exact hne) (by rw [e1]; exact hpr)
      · rw [if_neg e]; exact .here (by rw [e2 a hx.1 e]; exact h)
    | @up a r h hr ih =>
      have e : a ≠ q := fun e => h (e ▸ hqq)
      exact .up (by rw [e2 a hx.1 e]; exact h) (by rw [e2 a hx.1 e]; exact ih (hw a hx).1)

theorem g_root {w : List Int} {U : List Int} {m : Int → Nat} (hw : Wf m U) (hl : U.length = w.length) {x r : Int} (hx : In w x) (h : Root U x r) : In w r := by
  have : In U r := h.inn hw (by simpa [In, hl] using hx)
  simpa [In, hl] using this

/-- Two sets are joined. -/
theorem JInv.join {m : Int → Nat} {U S L : List Int} {k : Int} {w : List Int} (h : JInv m U S L k w) {a b ra rb p q : Int} (ha : rhas w a) (hb : rhas w b) (hra : Root U a ra) (hrb : Root U b rb) (hne : ra ≠ rb)
    (hpq : (p = ra ∧ q = rb) ∨ (p = rb ∧ q = ra)) :
    ∃ m', JInv m' (U.set q.toNat p) (S.set p.toNat (g S p + g S q)) (L.set p.toNat (if g L q < g L p then g L q else g L p)) (k - 1) (runite w a b).1 ∧ (runite w a b).2 = true ∧ In w p ∧ In w q ∧ 0 ≤ g S p ∧ 0 ≤ g S q ∧ g S p + g S q ≤ w.length ∧ k ≤ w.length ∧ 1 ≤ k := by
  have hia : In w a := ⟨by have := ha.1; omega, ha.2⟩
  have hib : In w b := ⟨by have := hb.1; omega, hb.2⟩
  have hwne : g w a ≠ g w b := fun e => hne ((h.same a b ra rb hia hib hra hrb).2 e)
  -- p, q are the roots of some c, d
  obtain ⟨c, d, hc, hd, hrc, hrd, hcd⟩ : ∃ c d, rhas w c ∧ rhas w d ∧ Root U c p ∧ Root U d q ∧ ((c = a ∧ d = b) ∨ (c = b ∧ d = a)) := by
    rcases hpq with ⟨rfl, rfl⟩ | ⟨rfl, rfl⟩
    · exact ⟨a, b, ha, hb, hra, hrb, .inl ⟨rfl, rfl⟩⟩
    · exact ⟨b, a, hb, ha, hrb, hra, .inr ⟨rfl, rfl⟩⟩
  have hic : In w c := ⟨by have := hc.1; omega, hc.2⟩
  have hid : In w d := ⟨by have := hd.1; omega, hd.2⟩
  have hpn : p ≠ q := by rcases hpq with ⟨rfl, rfl⟩ | ⟨rfl, rfl⟩; exact hne; exact Ne.symm hne
  have hip := g_root h.wf h.lu hic hrc
  have hiq := g_root h.wf h.lu hid hrd
  have hipU : In U p := by simpa [In, h.lu] using hip
  have hiqU : In U q := by simpa [In, h.lu] using hiq
  obtain ⟨r1, r2⟩ := h.rep c p hic hrc
  obtain ⟨s1, s2⟩ := h.rep d q hid hrd
  have hcdw : g w c ≠ g w d := by rcases hcd with ⟨rfl, rfl⟩ | ⟨rfl, rfl⟩; exact hwne; exact Ne.symm hwne
  have hrun : runite w a b = (glue w (lo w a b) (hi w a b), true) := by unfold runite; rw [if_pos ⟨ha, hb, hwne⟩]
  have hla := h.wok.le a hia
  have hlb := h.wok.le b hib
  have hpa := h.wok.low a hia ha.1
  have hpb := h.wok.low b hib hb.1
  have hga : In w (g w a) := ⟨hla.1, by have := hia.2; omega⟩
  have hgb : In w (g w b) := ⟨hlb.1, by have := hib.2; omega⟩
  obtain ⟨l, hl⟩ : ∃ l, l = lo w a b := ⟨_, rfl⟩
  obtain ⟨hh, hhe⟩ : ∃ hh, hh = hi w a b := ⟨_, rfl⟩
  have hcases : (l = g w a ∧ hh = g w b ∧ g w a < g w b) ∨ (l = g w b ∧ hh = g w a ∧ g w b < g w a) := by
    rw [hl, hhe]; unfold lo hi; by_cases hlt : g w b < g w a
    · rw [if_pos hlt, if_pos hlt]; exact .inr ⟨rfl, rfl, hlt⟩
    · rw [if_neg hlt, if_neg hlt]; exact .inl ⟨rfl, rfl, by omega⟩
  have q1 : 1 ≤ l := by rcases hcases with ⟨rfl, _⟩ | ⟨rfl, _⟩; exact hpa; exact hpb
  have q2 : l < hh := by rcases hcases with ⟨rfl, rfl, x⟩ | ⟨rfl, rfl, x⟩ <;> exact x
  have q3 : In w l := by rcases hcases with ⟨rfl, _⟩ | ⟨rfl, _⟩; exact hga; exact hgb
  have q4 : In w hh := by rcases hcases with ⟨_, rfl, _⟩ | ⟨_, rfl, _⟩; exact hgb; exact hga
  have q5 : g w l = l := by rcases hcases with ⟨rfl, _⟩ | ⟨rfl, _⟩; exact h.wok.idem a hia; exact h.wok.idem b hib
  have q6 : g w hh = hh := by rcases hcases with ⟨_, rfl, _⟩ | ⟨_, rfl, _⟩; exact h.wok.idem b hib; exact h.wok.idem a hia
  have hset : (l = g w c ∧ hh = g w d) ∨ (l = g w d ∧ hh = g w c) := by
    rcases hcd with ⟨rfl, rfl⟩ | ⟨rfl, rfl⟩ <;> rcases hcases with ⟨x, y, _⟩ | ⟨x, y, _⟩
    · exact .inl ⟨x, y⟩
    · exact .inr ⟨x, y⟩
    · exact .inr ⟨x, y⟩
    · exact .inl ⟨x, y⟩
  have hin : ∀ x, In (glue w l hh) x ↔ In w x := fun x => by simp [In, glue_length]
  have hinU : ∀ x, In U x ↔ In w x := fun x => by simp [In, h.lu]
  have hv : ∀ x, In w x → g (glue w l hh) x = if g w x = hh then l else g w x := fun x hx => glue_val h.wok q1 q2 q3 q4 q5 q6 hx
  have hval : ∀ x, In w x → g (glue w l hh) x = if g w x = g w c ∨ g w x = g w d then l else g w x := fun x hx => by
    rw [hv x hx]
    rcases hset with ⟨e1, e2⟩ | ⟨e1, e2⟩ <;> rw [e1, e2] <;> by_cases h1 : g w x = g w c <;> by_cases h2 : g w x = g w d <;> simp_all
  obtain ⟨m', hw', hr'⟩ := hang h.wf hipU hiqU hrc.root hrd.root hpn
  have hcnt : (cnt (glue w l hh) l : Int) = g S p + g S q := by
    rw [glue_cnt_l h.wok q1 q2 q3 q4 q5 q6, r2, s2]
    rcases hset with ⟨e1, e2⟩ | ⟨e1, e2⟩ <;> rw [e1, e2] <;> push_cast <;> omega
  have hmin : (if g L q < g L p then g L q else g L p) = l := by
    rw [r1, s1]
    rcases hset with ⟨e1, e2⟩ | ⟨e1, e2⟩
    · rw [if_neg (by omega)]; exact e1.symm
    · rw [if_pos (by omega)]; exact e1.symm
  have hipS : In S p := by simpa [In, h.ls] using hip
  have hipL : In L p := by simpa [In, h.ll] using hip
  have hfix := glue_fix h.wok q1 q2 q3 q4 q5 q6
  have hroot : ∀ x r, In w x → Root (U.set q.toNat p) x r → ∃ r0, Root U x r0 ∧ r = if r0 = q then p else r0 := fun x r hx hr => by
    obtain ⟨r0, h0⟩ := Root.ex h.wf _ x (Nat.lt_succ_self _) ((hinU x).2 hx)
    exact ⟨r0, h0, (hr' x r0 ((hinU x).2 hx) h0).uniq hr⟩
  have hkw := fix_le w
  refine ⟨m', ?_, by rw [hrun], hip, hiq, by rw [r2]; omega, by rw [s2]; omega, ?_, by rw [h.sets]; omega, by rw [h.sets]; omega⟩
  · rw [hrun, ← hl, ← hhe]
    show JInv m' _ _ _ _ (glue w l hh)
    refine ⟨hw', by simp [glue_length, h.lu], by simp [glue_length, h.ls], by simp [glue_length, h.ll], glue_ok h.wok q1 q2 q3 q4 q5 q6, ?_, ?_, by rw [h.sets]; omega⟩
    · intro x r hx hr
      rw [hin] at hx
      obtain ⟨r0, h0, rfl⟩ := hroot x r hx hr
      obtain ⟨t1, t2⟩ := h.rep x r0 hx h0
      have hir := g_root h.wf h.lu hx h0
      rw [hval x hx]
      by_cases eq : r0 = q
      · rw [if_pos eq, g_set_same hipL, g_set_same hipS, hmin]
        have : g w x = g w d := (h.same x d r0 q hx hid h0 hrd).1 eq
        rw [if_pos (.inr this)]
        exact ⟨rfl, hcnt.symm⟩
      · rw [if_neg eq]
        by_cases ep : r0 = p
        · subst ep
          rw [g_set_same hipL, g_set_same hipS, hmin]
          have : g w x = g w c := (h.same x c r0 r0 hx hic h0 hrc).1 rfl
          rw [if_pos (.inl this)]
          exact ⟨rfl, hcnt.symm⟩
        · rw [g_set_other hip.1 hir.1 ep, g_set_other hip.1 hir.1 ep, t1, t2]
          have n1 : g w x ≠ g w c := fun e => ep ((h.same x c r0 p hx hic h0 hrc).2 e)
          have n2 : g w x ≠ g w d := fun e => eq ((h.same x d r0 q hx hid h0 hrd).2 e)
          rw [if_neg (by simp [n1, n2])]
          refine ⟨rfl, ?_⟩
          rw [glue_cnt_o h.wok q1 q2 q3 q4 q5 q6]
          · rcases hset with ⟨e1, e2⟩ | ⟨e1, e2⟩ <;> rw [e1] <;> assumption
          · rcases hset with ⟨e1, e2⟩ | ⟨e1, e2⟩ <;> rw [e2] <;> assumption
    · intro x y r t hx hy hr ht
      rw [hin] at hx hy
      obtain ⟨r0, h0, rfl⟩ := hroot x r hx hr
      obtain ⟨t0, h1, rfl⟩ := hroot y t hy ht
      have hxc := h.same x c r0 p hx hic h0 hrc
      have hxd := h.same x d r0 q hx hid h0 hrd
      have hyc := h.same y c t0 p hy hic h1 hrc
      have hyd := h.same y d t0 q hy hid h1 hrd
      have hxy := h.same x y r0 t0 hx hy h0 h1
      have key : ∀ z t0, In w z → (t0 = p ↔ g w z = g w c) → (t0 = q ↔ g w z = g w d) → ((t0 = q ∨ t0 = p) → g (glue w l hh) z = l) ∧ (t0 ≠ q → t0 ≠ p → g (glue w l hh) z = g w z ∧ g w z ≠ l) := by
        intro z t0 hz hc hd
        rw [hval z hz]
        refine ⟨fun ht => if_pos ?_, fun h1 h2 => ?_⟩
        · rcases ht with ht | ht
          · exact .inr (hd.1 ht)
          · exact .inl (hc.1 ht)
        · have n1 : g w z ≠ g w c := fun e => h2 (hc.2 e)
          have n2 : g w z ≠ g w d := fun e => h1 (hd.2 e)
          refine ⟨if_neg (by simp [n1, n2]), ?_⟩
          rcases hset with ⟨e1, _⟩ | ⟨e1, _⟩ <;> rw [e1] <;> assumption
      obtain ⟨kx1, kx2⟩ := key x r0 hx hxc hxd
      obtain ⟨ky1, ky2⟩ := key y t0 hy hyc hyd
      by_cases hxx : r0 = q ∨ r0 = p
      · have ex : (if r0 = q then p else r0) = p := by split; rfl; rename_i h1; exact hxx.resolve_left h1
        rw [ex, kx1 hxx]
        by_cases hyy : t0 = q ∨ t0 = p
        · have ey : (if t0 = q then p else t0) = p := by split; rfl; rename_i h1; exact hyy.resolve_left h1
          rw [ey, ky1 hyy]; simp
        · have y1 : t0 ≠ q := fun e => hyy (.inl e)
          have y2 : t0 ≠ p := fun e => hyy (.inr e)
          obtain ⟨e1, e2⟩ := ky2 y1 y2
          rw [if_neg y1, e1]
          exact ⟨fun e => absurd e.symm y2, fun e => absurd e.symm e2⟩
      · have x1 : r0 ≠ q := fun e => hxx (.inl e)
        have x2 : r0 ≠ p := fun e => hxx (.inr e)
        obtain ⟨e1, e2⟩ := kx2 x1 x2
        rw [if_neg x1, e1]
        by_cases hyy : t0 = q ∨ t0 = p
        · have ey : (if t0 = q then p else t0) = p := by split; rfl; rename_i h1; exact hyy.resolve_left h1
          rw [ey, ky1 hyy]
          exact ⟨fun e => absurd e x2, fun e => absurd e e2⟩
        · have y1 : t0 ≠ q := fun e => hyy (.inl e)
          have y2 : t0 ≠ p := fun e => hyy (.inr e)
          obtain ⟨e3, _⟩ := ky2 y1 y2
          rw [if_neg y1, e3]
          exact hxy
  · rw [← hcnt]; have := cnt_le (glue w l hh) l; rw [glue_length] at this; omega
end Go.Proofs.Ytdbnpghckgmaoaa.JP

/- Forests, plain: who is reached, round by round and one behind the other; ways by those ahead; lists of nodes. -/
namespace Go.Proofs.Ytdbnpghckgmaoaa.TP
set_option linter.unusedVariables false
set_option linter.unusedSimpArgs false
set_option linter.unusedSectionVars false
open JP (g In)
/-! ### rounds -/
theorem Way.pre {l : List E} {a x : Int} {p : List Int} (h : Way l a x p) (hl : 2 ≤ p.length) : ∃ y q, Way l a y q ∧ q.length + 1 = p.length ∧ Adj l y x := by
  have hr := h.rev
  cases hr' : p.reverse with
  | nil => rw [List.reverse_eq_nil_iff] at hr'; subst hr'; simp at hl
  | cons z t =>
    rw [hr'] at hr
    have hlen := congrArg List.length hr'
    simp only [List.length_reverse, List.length_cons] at hlen
    cases hr with
    | one => simp at hlen; omega
    | cons ha hn r => exact ⟨_, _, r.rev, by simp; omega, ha.symm⟩
/-- What is reached after some rounds. -/
structure Rnd (l : List E) (a : Int) (n : Nat) (r : Nat → Bool) : Prop where
  sound : ∀ i, r i = true → Conn l a (i : Nat)
  far : ∀ x p, Way l a x p → p.length ≤ n + 1 → r x.toNat = true
/-- And in the midst of one. -/
structure Mid (l : List E) (a : Int) (n i : Nat) (r : Nat → Bool) : Prop where
  sound : ∀ i, r i = true → Conn l a (i : Nat)
  far : ∀ x p, Way l a x p → p.length ≤ n + 1 → r x.toNat = true
  more : ∀ x p y e, Way l a x p → p.length ≤ n + 1 → e ∈ l.take i → e.has x y → r y.toNat = true
variable {l : List E} {a : Int}
theorem Rnd.start {r : Nat → Bool} (ha : Node a) (hr : ∀ i, r i = true ↔ (i : Int) = a) : Rnd l a 0 r where
  sound i h := by rw [(hr i).1 h]; exact .refl _
  far x p h hp := by
    cases h with
    | one => exact (hr _).2 (by have := ha.1; omega)
    | cons _ _ r' => obtain ⟨t, ht⟩ := r'.head; subst ht; simp at hp
theorem Rnd.mid {n : Nat} {r : Nat → Bool} (h : Rnd l a n r) : Mid l a n 0 r := ⟨h.sound, h.far, fun x p y e _ _ he => by simp at he⟩
theorem Mid.rnd {n i : Nat} {r : Nat → Bool} (h : Mid l a n i r) (hi : l.length ≤ i) : Rnd l a (n + 1) r where
  sound := h.sound
  far x p hw hp := by
    by_cases hs : p.length ≤ n + 1
    · exact h.far x p hw hs
    · obtain ⟨y, q, hq, hql, e, he, hh⟩ := hw.pre (by omega)
      exact h.more y q x e hq (by omega) (by rw [List.take_of_length_le hi]; exact he) hh
theorem Mid.skip {n i : Nat} {r : Nat → Bool} {e : E} (h : Mid l a n i r) (he : l[i]? = some e) (h1 : r e.a.toNat = false) (h2 : r e.b.toNat = false) : Mid l a n (i + 1) r where
  sound := h.sound
  far := h.far
  more x p y f hw hp hf hh := by
    rw [List.take_add_one, he] at hf
    rcases List.mem_append.1 hf with hf | hf
    · exact h.more x p y f hw hp hf hh
    · obtain rfl : f = e := by simpa using hf
      have := h.far x p hw hp
      rcases hh with ⟨h3, _⟩ | ⟨_, h3⟩ <;> rw [← h3] at this <;> simp_all
theorem Mid.next {n i : Nat} {r : Nat → Bool} {e : E} (h : Mid l a n i r) (he : l[i]? = some e) (hn : Node e.a ∧ Node e.b) (h1 : r e.a.toNat = true ∨ r e.b.toNat = true) :
    Mid l a n (i + 1) (fun j => decide (j = e.b.toNat) || (decide (j = e.a.toNat) || r j)) where
  sound j hj := by
    have hm : e ∈ l := List.mem_of_getElem? he
    have n1 : ((e.a.toNat : Nat) : Int) = e.a := by have := hn.1.1; omega
    have n2 : ((e.b.toNat : Nat) : Int) = e.b := by have := hn.2.1; omega
    have s : Conn l e.a e.b := .one ⟨e, hm, .inl ⟨rfl, rfl⟩⟩
    have c : Conn l a e.a ∧ Conn l a e.b := by
      rcases h1 with h1 | h1
      · have := h.sound _ h1; rw [n1] at this; exact ⟨this, this.trans s⟩
      · have := h.sound _ h1; rw [n2] at this; exact ⟨this.trans s.symm, this⟩
    simp only [Bool.or_eq_true, decide_eq_true_eq] at hj
    rcases hj with rfl | rfl | hj
    · rw [n2]; exact c.2
    · rw [n1]; exact c.1
    · exact h.sound j hj
  far x p hw hp := by simp [h.far x p hw hp]
  more x p y f hw hp hf hh := by
    rw [List.take_add_one, he] at hf
    rcases List.mem_append.1 hf with hf | hf
    · simp [h.more x p y f hw hp hf hh]
    · obtain rfl : f = e := by simpa using hf
      rcases hh with ⟨_, h3⟩ | ⟨h3, _⟩ <;> simp [h3]
noncomputable def reachB (l : List E) (a : Int) (i : Nat) : Bool := open Classical in decide (Node a ∧ Conn l a i)
theorem reachB_iff {i : Nat} : reachB l a i = true ↔ Node a ∧ Conn l a i := by simp [reachB]
theorem Rnd.done {r : Nat → Bool} (hl : ∀ e ∈ l, Node e.a ∧ Node e.b) (ha : Node a) {n : Nat} (hn : 63 ≤ n) (h : Rnd l a n r) : ∀ i, r i = reachB l a i := fun i => by
  rw [Bool.eq_iff_iff, reachB_iff]
  refine ⟨fun hr => ⟨ha, h.sound i hr⟩, fun ⟨_, hc⟩ => ?_⟩
  obtain ⟨p, hp⟩ := Way.ex hc
  have := hp.short hl ha
  exact h.far i p hp (by omega)
/-! ### lists of nodes -/
def lkN (f : Nat → Bool) : Nat → List Int
  | 0 => []
  | k + 1 => lkN f k ++ if f (k + 1) = true then [((k + 1 : Nat) : Int)] else []
theorem lkN_mem {f : Nat → Bool} {x : Int} : ∀ {k : Nat}, x ∈ lkN f k ↔ 1 ≤ x ∧ x ≤ k ∧ f x.toNat = true
  | 0 => by simp [lkN]; omega
  | k + 1 => by
    rw [lkN, List.mem_append, lkN_mem (k := k)]
    by_cases hf : f (k + 1) = true
    · rw [if_pos hf, List.mem_singleton]
      constructor
      · rintro (⟨h1, h2, h3⟩ | rfl)
        · exact ⟨h1, by omega, h3⟩
        · exact ⟨by omega, Int.le_refl _, by simpa using hf⟩
      · rintro ⟨h1, h2, h3⟩
        by_cases hx : x = ((k + 1 : Nat) : Int)
        · exact .inr hx
        · exact .inl ⟨h1, by omega, h3⟩
    · rw [if_neg hf]
      constructor
      · rintro (⟨h1, h2, h3⟩ | h)
        · exact ⟨h1, by omega, h3⟩
        · cases h
      · rintro ⟨h1, h2, h3⟩
        by_cases hx : x = ((k + 1 : Nat) : Int)
        · subst hx; exact absurd h3 (by simpa using hf)
        · exact .inl ⟨h1, by omega, h3⟩
theorem lkN_len {f : Nat → Bool} : ∀ {k : Nat}, (lkN f k).length ≤ k
  | 0 => Nat.le_refl _
  | k + 1 => by
    rw [lkN, List.length_append]
    have := lkN_len (f := f) (k := k)
    split <;> simp <;> omega
theorem lkN_nodup {f : Nat → Bool} : ∀ {k : Nat}, (lkN f k).Nodup
  | 0 => List.nodup_nil
  | k + 1 => by
    rw [lkN, List.nodup_append]
    refine ⟨lkN_nodup, by split <;> simp, fun x hx y hy e => ?_⟩
    subst e
    have := (lkN_mem.1 hx).2.1
    split at hy
    · rw [List.mem_singleton.1 hy] at this; omega
    · cases hy
theorem lkN_congr {f f' : Nat → Bool} : ∀ {k : Nat}, (∀ i, 1 ≤ i → i ≤ k → f i = f' i) → lkN f k = lkN f' k
  | 0, _ => rfl
  | k + 1, h => by rw [lkN, lkN, lkN_congr fun i h1 h2 => h i h1 (by omega), h (k + 1) (by omega) (Nat.le_refl _)]
theorem lkN_split {f f1 f2 : Nat → Bool} : ∀ {k : Nat}, (∀ i, 1 ≤ i → i ≤ k → f i = (f1 i || f2 i)) → (∀ i, 1 ≤ i → i ≤ k → ¬ (f1 i = true ∧ f2 i = true)) → (lkN f k).length = (lkN f1 k).length + (lkN f2 k).length
  | 0, _, _ => rfl
  | k + 1, h, h2 => by
    have ih := lkN_split (k := k) (fun i a b => h i a (by omega)) (fun i a b => h2 i a (by omega))
    have a := h (k + 1) (by omega) (Nat.le_refl _)
    have b := h2 (k + 1) (by omega) (Nat.le_refl _)
    simp only [lkN, List.length_append, ih, a]
    cases h1 : f1 (k + 1) <;> cases h3 : f2 (k + 1) <;> simp_all <;> omega
/-- Those that one is linked to. -/
noncomputable def side (l : List E) (a : Int) : List Int := lkN (reachB l a) 64
theorem side_mem (hl : ∀ e ∈ l, Node e.a ∧ Node e.b) (ha : Node a) {x : Int} : x ∈ side l a ↔ Conn l a x := by
  unfold side
  rw [lkN_mem, reachB_iff]
  constructor
  · rintro ⟨h1, h2, _, h3⟩
    rwa [show ((x.toNat : Nat) : Int) = x from by omega] at h3
  · intro h
    have := h.node hl ha
    exact ⟨this.1, this.2, ha, by rwa [show ((x.toNat : Nat) : Int) = x from by have := this.1; omega]⟩

/-! ### one behind the other -/
structure Bfs (l : List E) (root : Int) (U cl q : List Int) : Prop where
  len : U.length = 65
  ord : q.Nodup
  first : q[0]? = some root
  node : ∀ x ∈ q, Node x
  mem : ∀ x, 0 ≤ x → x ≤ 64 → (g U x ≠ 0 ↔ x ∈ q)
  up : ∀ k x, q[k]? = some x → k ≠ 0 → ∃ j, j < k ∧ q[j]? = some (g U x) ∧ Adj l x (g U x)
  root : g U root = root
  closed : ∀ n ∈ cl, ∀ y, Adj l n y → y ∈ q
theorem g_zeros (n : Nat) (x : Int) : g (List.replicate n 0) x = 0 := by
  unfold g; rw [List.getD_eq_getElem?_getD, List.getElem?_replicate]; split <;> rfl
theorem Bfs.start {root : Int} (hr : Node root) : Bfs l root ((List.replicate 65 (0 : Int)).set root.toNat root) [] [root] where
  len := by simp
  ord := by simp
  first := rfl
  node x h := by rw [List.mem_singleton.1 h]; exact hr
  mem x h0 h1 := by
    have hin : In (List.replicate 65 (0 : Int)) root := ⟨by have := hr.1; omega, by simp; have := hr.2; omega⟩
    by_cases hx : x = root
    · subst hx; rw [JP.g_set_same hin]; simp; have := hr.1; omega
    · rw [JP.g_set_other (by have := hr.1; omega) h0 hx, g_zeros]; simp [hx]
  up k x h hk := by cases k with | zero => exact absurd rfl hk | succ k => simp at h
  root := JP.g_set_same ⟨by have := hr.1; omega, by simp; have := hr.2; omega⟩
  closed n h := by cases h
theorem Bfs.push {root : Int} {U cl q : List Int} (h : Bfs l root U cl q) {n o : Int} (hn : n ∈ q) (ha : Adj l n o) (ho : Node o) (hg : g U o = 0) : Bfs l root (U.set o.toNat n) cl (q ++ [o]) := by
  have hnn := h.node n hn
  have hin : In U o := ⟨by have := ho.1; omega, by rw [h.len]; have := ho.2; omega⟩
  have hoq : o ∉ q := fun hm => (h.mem o (by have := ho.1; omega) ho.2).2 hm hg
  have hoth : ∀ x, x ∈ q → g (U.set o.toNat n) x = g U x := fun x hx => JP.g_set_other (by have := ho.1; omega) (by have := (h.node x hx).1; omega) (fun e => hoq (e ▸ hx))
  have hroot : root ∈ q := List.mem_of_getElem? h.first
  have hql : 0 < q.length := List.length_pos_of_mem hn
  refine ⟨by simp [h.len], ?_, ?_, ?_, ?_, ?_, ?_, ?_⟩
  · rw [List.nodup_append]
    exact ⟨h.ord, by simp, fun x hx y hy e => hoq (by rw [List.mem_singleton.1 hy] at e; exact e ▸ hx)⟩
  · rw [List.getElem?_append_left hql]; exact h.first
  · intro x hx
    rcases List.mem_append.1 hx with hx | hx
    · exact h.node x hx
    · rw [List.mem_singleton.1 hx]; exact ho
  · intro x h0 h1
    by_cases hx : x = o
    · subst hx; rw [JP.g_set_same hin]; simp; have := hnn.1; omega
    · rw [JP.g_set_other (by have := ho.1; omega) h0 hx, h.mem x h0 h1]; simp [hx]
  · intro k x hk hk0
    rcases Nat.lt_or_ge k q.length with hlt | hge
    · rw [List.getElem?_append_left hlt] at hk
      obtain ⟨j, hj, hjq, hadj⟩ := h.up k x hk hk0
      rw [hoth x (List.mem_of_getElem? hk)]
      exact ⟨j, hj, by rw [List.getElem?_append_left (by omega)]; exact hjq, hadj⟩
    · rw [List.getElem?_append_right hge] at hk
      have hk2 : k = q.length := by
        rcases Nat.lt_or_ge (k - q.length) 1 with h1 | h1
        · omega
        · rw [List.getElem?_eq_none (by simpa using h1)] at hk; cases hk
      subst hk2
      obtain rfl : o = x := by simpa using hk
      rw [JP.g_set_same hin]
      obtain ⟨j, hj, hjn⟩ := List.mem_iff_getElem.1 hn
      exact ⟨j, hj, by rw [List.getElem?_append_left hj, List.getElem?_eq_getElem hj, hjn], ha.symm⟩
  · rw [hoth root hroot]; exact h.root
  · intro m hm y hy; exact List.mem_append_left _ (h.closed m hm y hy)
theorem Bfs.close {root : Int} {U cl q : List Int} (h : Bfs l root U cl q) {n : Int} (hc : ∀ y, Adj l n y → y ∈ q) : Bfs l root U (cl ++ [n]) q :=
  ⟨h.len, h.ord, h.first, h.node, h.mem, h.up, h.root, fun m hm y hy => (List.mem_append.1 hm).elim (fun hm => h.closed m hm y hy) (fun hm => by rw [List.mem_singleton.1 hm] at hy; exact hc y hy)⟩
theorem Bfs.done {root : Int} {U q : List Int} (h : Bfs l root U q q) {x : Int} : x ∈ q ↔ Conn l root x := by
  have hroot : root ∈ q := List.mem_of_getElem? h.first
  constructor
  · intro hx
    obtain ⟨k, hk, rfl⟩ := List.mem_iff_getElem.1 hx
    have key : ∀ (k : Nat) (y : Int), q[k]? = some y → Conn l root y := by
      intro k
      induction k using Nat.strongRecOn with
      | ind k ih =>
        intro y hy
        by_cases hk : k = 0
        · subst hk; rw [h.first] at hy; obtain rfl := Option.some.inj hy; exact .refl _
        · obtain ⟨j, hj, hjq, hadj⟩ := h.up k y hy hk
          exact (ih j hj _ hjq).trans (.one hadj.symm)
    exact key k _ (List.getElem?_eq_getElem hk)
  · intro hc
    have key : ∀ {s t : Int}, Conn l s t → s ∈ q → t ∈ q := by
      intro s t hst
      induction hst with
      | refl => exact id
      | step a _ ih => exact fun hs => ih (h.closed _ hs _ a)
    exact key hc hroot
theorem Bfs.reach {root : Int} {U q : List Int} (h : Bfs l root U q q) (hr : Node root) {i : Nat} (hi : i ≤ 64) : decide (g U i ≠ 0) = reachB l root i := by
  rw [Bool.eq_iff_iff, decide_eq_true_iff, reachB_iff, h.mem i (by omega) (by omega), h.done]
  exact ⟨fun h => ⟨hr, h⟩, fun h => h.2⟩
/-- Each one's way by those ahead. -/
inductive Ups (U : List Int) (root : Int) : Int → List Int → Prop
  | one : Ups U root root [root]
  | cons {a : Int} {p : List Int} (hn : a ≠ root) (r : Ups U root (g U a) p) : Ups U root a (a :: p)
theorem Bfs.ups {root : Int} {U cl q : List Int} (h : Bfs l root U cl q) : ∀ {k : Nat} {x : Int}, q[k]? = some x → ∃ p, Ups U root x p ∧ Way l x root p ∧ ∀ y ∈ p, ∃ j, j ≤ k ∧ q[j]? = some y := by
  intro k
  induction k using Nat.strongRecOn with
  | ind k ih =>
    intro x hx
    by_cases hk : k = 0
    · subst hk
      rw [h.first] at hx
      obtain rfl := Option.some.inj hx
      exact ⟨_, .one, .one _, fun y hy => ⟨0, Nat.le_refl _, by rw [List.mem_singleton.1 hy]; exact h.first⟩⟩
    · obtain ⟨j, hj, hjq, hadj⟩ := h.up k x hx hk
      obtain ⟨p, hp1, hp2, hp3⟩ := ih j hj hjq
      have inj : ∀ {i j : Nat} {t : Int}, q[i]? = some t → q[j]? = some t → i = j := fun {i j t} hi hj => by
        obtain ⟨a1, a2⟩ := List.getElem?_eq_some_iff.1 hi
        obtain ⟨b1, b2⟩ := List.getElem?_eq_some_iff.1 hj
        exact (List.getElem_inj (h₀ := a1) (h₁ := b1) h.ord).1 (a2.trans b2.symm)
      refine ⟨x :: p, .cons (fun e => ?_) hp1, .cons hadj (fun hm => ?_) hp2, fun y hy => ?_⟩
      · subst e; exact hk (inj hx h.first)
      · obtain ⟨i, hi, hiq⟩ := hp3 x hm
        have := inj hx hiq; omega
      · rcases List.mem_cons.1 hy with rfl | hy
        · exact ⟨k, Nat.le_refl _, hx⟩
        · obtain ⟨i, hi, hiq⟩ := hp3 y hy
          exact ⟨i, by omega, hiq⟩
end Go.Proofs.Ytdbnpghckgmaoaa.TP

/- New blocks, append, slices, aggregates. -/
namespace Go.Proofs.Ytdbnpghckgmaoaa.Ab
set_option linter.unusedVariables false
set_option linter.unusedSimpArgs false
set_option linter.unusedSectionVars false
open Go.RowKit

section
variable {P : Program} {W0 w : World} {ρ : Ren} {s : AHeap}

theorem Sim.grow (hS : Sim W0 ρ s w) (o : Obj) : Sim W0 ρ s (w.alloc o) := by
  refine ⟨hS.below.alloc hS.below.size o, fun id b hb => ?_, hS.dom, hS.apart, hS.fin⟩
  obtain ⟨l, hl, hr⟩ := hS.rep id b hb
  refine ⟨l, hl, ?_⟩
  cases hlv : b.live with
  | false => exact hr.of_idle hlv
  | true => exact hr.same (Below.heap_alloc _ _ _ (hS.lt hb hl hlv)) (by simp)

theorem Sim.kill (hS : Sim W0 ρ s w) {id b} (hs : s id = some b) : Sim W0 ρ (s.set id .dead) w := by
  refine ⟨hS.below, fun id' b' hb => ?_, fun id' l hl => ?_, ?_, fin_set hS.fin _ _⟩
  · by_cases h : id' = id
    · subst h; rw [AHeap.set_same] at hb; obtain rfl := Option.some.inj hb
      obtain ⟨l, hl, _⟩ := hS.rep id' _ hs; exact ⟨l, hl, trivial⟩
    · rw [AHeap.set_other _ _ h] at hb; exact hS.rep id' b' hb
  · by_cases h : id' = id
    · subst h; rw [AHeap.set_same]; rfl
    · rw [AHeap.set_other _ _ h]; exact hS.dom id' l hl
  · intro x y bx bY lx ly hne hx hy ho hlv hlx hly
    by_cases h : x = id
    · subst h; rw [AHeap.set_same] at hx; obtain rfl := Option.some.inj hx; cases ho
    · by_cases h' : y = id
      · subst h'; rw [AHeap.set_same] at hy; obtain rfl := Option.some.inj hy; cases hlv
      · rw [AHeap.set_other _ _ h] at hx; rw [AHeap.set_other _ _ h'] at hy
        exact hS.apart x y bx bY lx ly hne hx hy ho hlv hlx hly

theorem heap_setCells (B : Nat) : ∀ (vs : List Value) (o : Nat) (w : World) (k : Nat), k ≠ B → (w.setCells B o vs).heap[k]? = w.heap[k]?
  | [], _, _, _, _ => rfl
  | v :: r, o, w, k, h => by rw [World.setCells, heap_setCells B r _ _ k h, Below.heap_setCell _ _ _ _ (by simpa using h)]
theorem size_setCells (B : Nat) : ∀ (vs : List Value) (o : Nat) (w : World), (w.setCells B o vs).heap.size = w.heap.size
  | [], _, _ => rfl
  | v :: r, o, w => by rw [World.setCells, size_setCells B r, World.size_setCell]
theorem below_setCells {W0 : World} {b B : Nat} (hB : b ≤ B) : ∀ (vs : List Value) (o : Nat) (w : World), Below b W0 w → Below b W0 (w.setCells B o vs)
  | [], _, _, h => h
  | v :: r, o, w, h => by rw [World.setCells]; exact below_setCells hB r _ _ (h.setCell (p := ⟨B, o, none⟩) hB v)

theorem Sim.aside (hS : Sim W0 ρ s w) {B : Nat} (hB : W0.heap.size ≤ B) (hap : ∀ id b l, s id = some b → b.live = true → ρ id = some l → l.B ≠ B) (o : Nat) (vs : List Value) :
    Sim W0 ρ s (w.setCells B o vs) := by
  refine ⟨below_setCells hB _ _ _ hS.below, fun id b hb => ?_, hS.dom, hS.apart, hS.fin⟩
  obtain ⟨l, hl, hr⟩ := hS.rep id b hb
  refine ⟨l, hl, ?_⟩
  cases hlv : b.live with
  | false => exact hr.of_idle hlv
  | true => exact hr.same (heap_setCells _ _ _ _ _ (hap id b l hb hlv hl)) (by rw [size_setCells]; exact Nat.le_refl _)

/-- A new block under a new name. -/
theorem Sim.made (hS : Sim W0 ρ s w) {id : Nat} (hs : s id = none) {c : List Value} {arr : Array Value} {el : TypeId} {sz : Nat} (h2 : All2 (V1 ρ) c (arr.toList.take c.length)) (hlen : c.length ≤ arr.size) :
    RLe ρ (setR ρ id ⟨w.heap.size, 0, arr.size, sz⟩) ∧ Sim W0 (setR ρ id ⟨w.heap.size, 0, arr.size, sz⟩) (s.set id (.cells true sz c)) (w.alloc (.cells arr el)) := by
  refine (hS.grow (.cells arr el)).name hs ?_ ?_
  · intro ρ' hle
    refine ⟨rfl, fun i v hv => ?_, fun _ => ⟨hS.below.size, by simp, hlen, fun i hi => ?_⟩⟩
    · obtain ⟨v', a, b⟩ := h2.get hv
      have hi : i < c.length := by
        rcases Nat.lt_or_ge i c.length with h | h
        · exact h
        · rw [List.getElem?_eq_none h] at hv; cases hv
      rw [List.getElem?_take_of_lt hi] at a
      exact ⟨v', by simp only [Nat.zero_add, World.cell?_alloc_new]; simpa using a, b.mono hle⟩
    · simp only [Nat.zero_add, World.cell?_alloc_new, World.frozen?_alloc_new, and_true]
      have : i < arr.size := hi
      simp [this]
  · intro id' b' l' hb hlv hl
    have := hS.lt hb hl hlv
    exact Nat.ne_of_gt this

/-! ### the cells of a slice or a string -/
def srcCells (s : AHeap) (sz : Nat) : Value → Option (Nat × List Value)
  | .slice none _ _ => some (0, [])
  | .slice (some a) n _ => if n = 0 then some (0, []) else match s a.block with
    | some (.cells _ sz' c) => if sz' = sz ∧ a.off + n * sz ≤ c.length then some (n, (c.drop a.off).take (n * sz)) else none
    | _ => none
  | .string b => some (b.size, b.data.toList.map fun x => .int .u8 x.toNat)
  | _ => none

theorem loadCells_zero (a : Addr) : (loadCells a 0).run P w = .ok #[] w := by simpa using run_loadCells_list (P := P) w a [] (by simp)

theorem src_sound (hS : Sim W0 ρ s w) {x x' : Value} (hx : VR ρ x x') {sz n xs} (h : srcCells s sz x = some (n, xs)) :
    (Builtin.lenOf x').run P w = .ok n w ∧ ∃ ys : List Value, (Builtin.firstCells sz n x').run P w = .ok ys.toArray w ∧ All2 (V1 ρ) xs ys := by
  unfold srcCells at h
  split at h
  · obtain ⟨rfl, rfl⟩ := Prod.mk.inj (Option.some.inj h)
    obtain ⟨_, _, rfl⟩ := hx.nils
    exact ⟨rfl, [], by simp [Builtin.firstCells], .nil⟩
  · rename_i a m c
    obtain ⟨l, A, cap, hsp, hl, hle, hK, hA, rfl⟩ := hx.slice
    split at h
    · rename_i hm
      obtain ⟨rfl, rfl⟩ := Prod.mk.inj (Option.some.inj h)
      subst hm
      exact ⟨rfl, [], by simp [Builtin.firstCells, loadCells_zero], .nil⟩
    · rename_i hm
      split at h
      case h_2 => cases h
      rename_i rw sz' c' hs
      split at h
      case isFalse => cases h
      rename_i hc
      obtain ⟨rfl, hc2⟩ := hc
      obtain ⟨rfl, rfl⟩ := Prod.mk.inj (Option.some.inj h)
      obtain ⟨l', hl', hz, cs', h2, hlen, hcl⟩ := hS.row hs hc2
      obtain rfl : l = l' := by rw [hl] at hl'; exact Option.some.inj hl'
      have hA' := hA.resolve_left (by omega)
      subst hA'
      exact ⟨rfl, cs', run_firstCells_some w sz' m _ _ _ cs' hlen hcl, h2⟩
  · obtain ⟨rfl, rfl⟩ := Prod.mk.inj (Option.some.inj h)
    obtain rfl := hx.str
    rename_i b
    refine ⟨rfl, (b.data.toList.map fun x => .int .u8 x.toNat), ?_, ?_⟩
    · have e : b.extract 0 b.size = b := by rw [ByteArray.extract_zero_size]
      simp only [Builtin.firstCells, e, Sem.run_pure]
      congr 1
      rw [← Array.toList_map]
    · have : ∀ l : List UInt8, All2 (V1 ρ) (l.map fun x => (.int .u8 x.toNat : Value)) (l.map fun x => .int .u8 x.toNat) := by
        intro l; induction l with
        | nil => exact .nil
        | cons a l ih => exact .cons (.a (.int _ _)) ih
      exact this _
  · cases h

/-! ### append -/
def srcOk : TK → Bool
  | .slice _ => true
  | .str => true
  | _ => false
def aappend (P : Program) (t tx : TypeId) (s : AHeap) (v x : Value) (id : Nat) : Option (Value × AHeap) :=
  match tdOf P t, tdOf P tx with
  | some td, some tdx => match td.k with
    | .slice e => match tdOf P e with
      | some te => match srcCells s te.size x with
        | some (m, xs) =>
          if srcOk tdx.k = true then
          if m = 0 then (match v with
            | .slice none _ _ => some (.slice none 0 0, s)
            | .slice (some a) n c => some (.slice (some a) n c, s)
            | _ => none)
          else match v with
            | .slice none _ _ => if te.zero.cells.size = te.size ∧ te.bytes ≠ 0 ∧ m * te.bytes ≤ 140737488355328 ∧ xs.length = m * te.size ∧ s id = none then
                some (.slice (some ⟨id, 0, none⟩) m m, s.set id (.cells true te.size xs)) else none
            | .slice (some a) n c =>
              if n + m ≤ c then (match s a.block with
                | some (.cells true sz cs) => if sz = te.size ∧ a.off + (n + m) * sz ≤ cs.length ∧ xs.length = m * te.size then
                    some (.slice (some a) (n + m) c, s.set a.block (.cells true sz (splice cs (a.off + n * sz) xs))) else none
                | _ => none)
              else if te.zero.cells.size = te.size ∧ te.bytes ≠ 0 ∧ (n + m) * te.bytes ≤ 140737488355328 ∧ xs.length = m * te.size ∧ s id = none then
                (if a.spot.isSome then (match srcCells s te.size (.slice (some a) n c) with
                  | some (_, old) => if old.length = n * te.size then some (.slice (some ⟨id, 0, none⟩) (n + m) (n + m), s.set id (.cells true te.size (old ++ xs))) else none
                  | none => none)
                else match s a.block with
                | some (.cells true sz cs) => if sz = te.size ∧ a.off + n * sz ≤ cs.length then
                    some (.slice (some ⟨id, 0, none⟩) (n + m) (n + m), (s.set a.block .dead).set id (.cells true sz ((cs.drop a.off).take (n * sz) ++ xs))) else none
                | _ => none)
              else none
            | _ => none
          else none
        | none => none
      | none => none
    | _ => none
  | _, _ => none

theorem All2.oneCell : ∀ {l l' : List Value}, All2 (V1 ρ) l l' → ∀ y ∈ l', y.oneCell' = true
  | _, _, .cons a r, y, hy => by
    rcases List.mem_cons.1 hy with rfl | hy
    · exact a.oneCell
    · exact All2.oneCell r y hy

/-- The machine's append where the slice has no room: a new block. -/
theorem run_append_new {t tx ty e : TypeId} {td te : TD} (ht : tdOf P t = some td) (hk : td.k = .slice e) (hte : tdOf P e = some te)
    (htx : (∃ e', P.underlying tx = some (.slice e')) ∨ P.underlying tx = some .string) {base : Option Addr} {n cap m : Nat} {x' : Value} {old new : List Value}
    (hz : te.zero.cells.size = te.size) (hb0 : te.bytes ≠ 0) (hb : (n + m) * te.bytes ≤ 140737488355328) (hcap : cap < n + m)
    (hl : (Builtin.lenOf x').run P w = .ok m w) (hnew : (Builtin.firstCells te.size m x').run P w.drew = .ok new.toArray w.drew)
    (hold : (Builtin.firstCells te.size n (.slice base n cap)).run P w.drew = .ok old.toArray w.drew)
    (hol : old.length = n * te.size) (hnl : new.length = m * te.size) :
    ∃ (newCap : Nat) (arr : Array Value), n + m ≤ newCap ∧ arr.size = newCap * te.size ∧ arr.toList.take ((n + m) * te.size) = old ++ new ∧
      (Builtin.append_ #[t, tx] ty #[.slice base n cap, x']).run P w = .ok (.slice (some ⟨w.heap.size, 0, none⟩) (n + m) newCap) (w.drew.alloc (.cells arr e)) := by
  obtain ⟨de, ie, hde, hie, hze, hke, hse, hbe⟩ := td_parts hte
  have hn : ¬ (n + m ≤ cap) := by omega
  have hz0 : ie.bytes ≠ 0 := by rw [← hbe]; exact hb0
  have h48' : ¬ (281474976710656 < Builtin.nextslicecap (n + m) cap * ie.bytes) := by
    have h1 := nextslicecap_le (need := n + m) (old := cap) (by omega)
    have h2 := Nat.mul_le_mul_right te.bytes h1
    rw [← hbe]
    rw [Nat.mul_assoc] at h2
    omega
  have hnm : n + m ≤ 140737488355328 := Nat.le_trans (Nat.le_mul_of_pos_right _ (Nat.pos_of_ne_zero hb0)) hb
  have h63' : ¬ (9223372036854775807 < ((n : Int) + (m : Int))) := by omega
  have hr : n + m ≤ grownCap w (n + m) cap e := Nat.le_add_right _ _
  refine ⟨grownCap w (n + m) cap e, (old ++ new).toArray ++ Builtin.zeroCells te.zero.cells (grownCap w (n + m) cap e - (n + m)), hr, ?_, ?_, ?_⟩
  · rw [Array.size_append, size_zeroCells, hz]
    simp only [List.size_toArray, List.length_append, hol, hnl]
    rw [Nat.sub_mul, Nat.add_mul]
    have := Nat.mul_le_mul_right te.size hr
    rw [Nat.add_mul] at this
    omega
  · have : (old ++ new).length = (n + m) * te.size := by simp [hol, hnl, Nat.add_mul]
    rw [Array.toList_append, List.take_left' (by simpa using this)]
  · rw [hse] at hnew hold
    rcases htx with ⟨e', hu⟩ | hu
    · simp [Builtin.append_, run_underlying (td_slice ht hk), run_underlying hu, sizeOf, typeInfo, zeroValue, hie, hze, hl, hn, h63', h48', hz0, Question.forced, hnew, hold, newRow, grownCap]
      congr 2
      apply Array.ext'
      simp [List.append_assoc]
    · simp [Builtin.append_, run_underlying (td_slice ht hk), run_underlying hu, sizeOf, typeInfo, zeroValue, hie, hze, hl, hn, h63', h48', hz0, Question.forced, hnew, hold, newRow, grownCap]
      congr 2
      apply Array.ext'
      simp [List.append_assoc]

/-- The machine's append where there is room. -/
theorem run_append_here {t tx ty e : TypeId} {td te : TD} (ht : tdOf P t = some td) (hk : td.k = .slice e) (hte : tdOf P e = some te)
    (htx : (∃ e', P.underlying tx = some (.slice e')) ∨ P.underlying tx = some .string) {B o : Nat} {n cap m : Nat} {x' : Value} {new : List Value}
    (hcap : n + m ≤ cap) (hl : (Builtin.lenOf x').run P w = .ok m w) (hnew : (Builtin.firstCells te.size m x').run P w = .ok new.toArray w)
    (h1 : ∀ j, j < new.length → (w.cell? ⟨B, o + n * te.size + j, none⟩).isSome = true) (h2 : ∀ j, j < new.length → w.frozen? ⟨B, o + n * te.size + j, none⟩ = false) (h3 : ∀ y ∈ new, y.oneCell' = true) :
    (Builtin.append_ #[t, tx] ty #[.slice (some ⟨B, o, none⟩) n cap, x']).run P w = .ok (.slice (some ⟨B, o, none⟩) (n + m) cap) (w.setCells B (o + n * te.size) new) := by
  obtain ⟨de, ie, hde, hie, hze, hke, hse, hbe⟩ := td_parts hte
  have hst := run_storeCells_cells (P := P) B (o + n * te.size) new 0 w (by simpa using h1) (by simpa using h2) h3
  rw [Nat.add_zero] at hst
  rw [hse] at hnew hst ⊢
  rcases htx with ⟨e', hu⟩ | hu
  · simp [Builtin.append_, run_underlying (td_slice ht hk), run_underlying hu, sizeOf, typeInfo, hie, hl, hcap, hnew, Addr.add_lit, hst]
  · simp [Builtin.append_, run_underlying (td_slice ht hk), run_underlying hu, sizeOf, typeInfo, hie, hl, hcap, hnew, Addr.add_lit, hst]

theorem run_append_nothing {t tx ty e : TypeId} {td te : TD} (ht : tdOf P t = some td) (hk : td.k = .slice e) (hte : tdOf P e = some te)
    (htx : (∃ e', P.underlying tx = some (.slice e')) ∨ P.underlying tx = some .string) {base : Option Addr} {n cap : Nat} {x' : Value}
    (hcap : n ≤ cap) (hl : (Builtin.lenOf x').run P w = .ok 0 w) (hnew : (Builtin.firstCells te.size 0 x').run P w = .ok #[] w) :
    (Builtin.append_ #[t, tx] ty #[.slice base n cap, x']).run P w = .ok (.slice base n cap) w := by
  obtain ⟨de, ie, hde, hie, hze, hke, hse, hbe⟩ := td_parts hte
  rw [hse] at hnew
  cases base <;> rcases htx with ⟨e', hu⟩ | hu <;>
    simp [Builtin.append_, run_underlying (td_slice ht hk), run_underlying hu, sizeOf, typeInfo, hie, hl, hcap, hnew, storeCells]

theorem append_sound (hS : Sim W0 ρ s w) {t tx ty v v' x x' id r s'} (hv : VR ρ v v') (hx : VR ρ x x') (h : aappend P t tx s v x id = some (r, s')) :
    ∃ r' w' ρ', (Builtin.append_ #[t, tx] ty #[v', x']).run P w = .ok r' w' ∧ RLe ρ ρ' ∧ VR ρ' r r' ∧ Sim W0 ρ' s' w' := by
  unfold aappend at h
  split at h
  case h_2 => cases h
  rename_i td tdx ht htx
  split at h
  case h_2 => cases h
  rename_i e hk
  split at h
  case h_2 => cases h
  rename_i te hte
  split at h
  case h_2 => cases h
  rename_i m xs hsrc
  split at h
  case isFalse => cases h
  rename_i hok
  have hux : (∃ e', P.underlying tx = some (.slice e')) ∨ P.underlying tx = some .string := by
    cases hkx : tdx.k <;> rw [hkx] at hok <;> first | exact .inl ⟨_, td_slice htx hkx⟩ | exact .inr (td_str htx hkx) | cases hok
  obtain ⟨hl, ys, hys, h2⟩ := src_sound (P := P) hS hx hsrc
  split at h
  · rename_i hm
    subst hm
    have hxs : xs = [] := by
      unfold srcCells at hsrc
      split at hsrc
      · simpa using hsrc.symm
      · split at hsrc
        · simpa using hsrc.symm
        · rename_i hne
          split at hsrc
          case h_2 => cases hsrc
          split at hsrc
          case isFalse => cases hsrc
          simp at hsrc; exact absurd hsrc.1 hne
      · simp at hsrc; obtain ⟨h0, rfl⟩ := hsrc; subst h0; rfl
      · cases hsrc
    subst hxs
    cases h2
    split at h
    · obtain ⟨rfl, rfl⟩ := Prod.mk.inj (Option.some.inj h)
      obtain ⟨rfl, rfl, rfl⟩ := hv.nils
      exact ⟨_, w, ρ, run_append_nothing (ty := ty) ht hk hte hux (Nat.le_refl 0) hl hys, RLe.refl _, hv, hS⟩
    · obtain ⟨rfl, rfl⟩ := Prod.mk.inj (Option.some.inj h)
      obtain ⟨l, A, cap, hsp, hl', hle, hK, hA, rfl⟩ := hv.slice
      exact ⟨_, w, ρ, run_append_nothing (ty := ty) ht hk hte hux hle hl hys, RLe.refl _, hv, hS⟩
    · cases h
  · rename_i hm
    split at h
    · -- a nil slice
      split at h
      case isFalse => cases h
      rename_i hc
      obtain ⟨hz, hb0, hb, hxl, hid⟩ := hc
      obtain ⟨rfl, rfl⟩ := Prod.mk.inj (Option.some.inj h)
      obtain ⟨rfl, rfl, rfl⟩ := hv.nils
      obtain ⟨_, ys', hys', h2'⟩ := src_sound (P := P) hS.drew hx hsrc
      obtain ⟨nc, arr, hnc, hsz, htk, hrun⟩ := run_append_new (w := w) (ty := ty) (base := none) (n := 0) (cap := 0) ht hk hte hux (old := []) (new := ys') hz hb0 (by simpa using hb) (by omega) hl hys'
        (by simp [Builtin.firstCells]) (by simp) (by rw [← h2'.length, hxl])
      simp only [Nat.zero_add, List.nil_append] at hrun hnc htk
      obtain ⟨hle, hS'⟩ := hS.drew.made (id := id) hid (c := xs) (arr := arr) (el := e) (sz := te.size) (by rw [hxl, htk]; exact h2')
        (by rw [hxl, hsz]; exact Nat.mul_le_mul_right _ hnc)
      refine ⟨_, _, _, hrun, hle, ?_, hS'⟩
      exact .atom (.sl (setR_same _ _ _) hnc (by simp [hsz]) (.inr rfl) hnc (.inl rfl))
    · rename_i a n c
      obtain ⟨l, A, cap, hsp, hl', hle, hK, hA, rfl⟩ := hv.slice
      split at h
      · -- room that is known
        rename_i hroom
        split at h
        case h_2 => cases h
        rename_i sz cs hs
        split at h
        case isFalse => cases h
        rename_i hc
        obtain ⟨hsz, hcl, hxl⟩ := hc
        subst hsz
        obtain ⟨rfl, rfl⟩ := Prod.mk.inj (Option.some.inj h)
        have hA' := hA.resolve_left (by omega)
        subst hA'
        have hyl : ys.length = m * te.size := by rw [← h2.length, hxl]
        rw [Nat.add_mul] at hcl
        obtain ⟨f1, f2, f3⟩ := Sim.storeMany hl' _ _ cs (a.off + n * te.size) s w hS hs h2 (by rw [hxl]; omega)
        have hrun := run_append_here (w := w) (ty := ty) (B := l.B) (o := l.o + a.off) (n := n) (cap := cap) (m := m) (x' := x') (new := ys) ht hk hte hux (by omega) hl hys
          (fun j hj => by have := f1 j hj; rwa [← Nat.add_assoc] at this) (fun j hj => by have := f2 j hj; rwa [← Nat.add_assoc] at this) (All2.oneCell h2)
        rw [show l.o + a.off + n * te.size = l.o + (a.off + n * te.size) by omega] at hrun
        exact ⟨_, _, ρ, hrun, RLe.refl _, .atom (.sl hl' (by omega) hK (.inr rfl) hsp.1 hsp.2), f3⟩
      rename_i hnoroom
      split at h
      case isFalse => cases h
      rename_i hc
      obtain ⟨hz, hb0, hb, hxl, hid⟩ := hc
      split at h
      · -- a capacity that is known: a new block
        rename_i hspot
        split at h
        case h_2 => cases h
        rename_i n0 old hold
        split at h
        case isFalse => cases h
        rename_i hol
        obtain ⟨rfl, rfl⟩ := Prod.mk.inj (Option.some.inj h)
        have hcap : cap = c := hsp.2.resolve_left (by intro e; rw [e] at hspot; cases hspot)
        subst hcap
        obtain ⟨_, ys', hys', h2'⟩ := src_sound (P := P) hS.drew hx hsrc
        obtain ⟨hlo, old', hold', h2o⟩ := src_sound (P := P) hS.drew hv hold
        have hn0 : n = n0 := by
          have : (Builtin.lenOf (.slice (some A) n cap)).run P w.drew = .ok n w.drew := rfl
          rw [this] at hlo; cases hlo; rfl
        subst hn0
        obtain ⟨nc, arr, hnc, hsz, htk, hrun⟩ := run_append_new (w := w) (ty := ty) (base := some A) (n := n) (cap := cap) ht hk hte hux (old := old') (new := ys') hz hb0 hb (by omega) hl hys' hold' (by rw [← h2o.length, hol]) (by rw [← h2'.length, hxl])
        have hcl2 : (old ++ xs).length = (n + m) * te.size := by simp [hxl, hol, Nat.add_mul]
        obtain ⟨hle', hS'⟩ := hS.drew.made (id := id) hid (c := old ++ xs) (arr := arr) (el := e) (sz := te.size)
          (by rw [hcl2, htk]; exact h2o.append h2') (by rw [hcl2, hsz]; exact Nat.mul_le_mul_right _ hnc)
        refine ⟨_, _, _, hrun, hle', .atom (.sl (setR_same _ _ _) hnc ?_ (.inr rfl) hnc (.inl rfl)), hS'⟩
        show 0 + nc * te.size ≤ arr.size
        omega
      split at h
      case h_2 => cases h
      rename_i sz cs hs
      split at h
      case isFalse => cases h
      rename_i hc
      obtain ⟨hsz, hcl⟩ := hc
      subst hsz
      obtain ⟨rfl, rfl⟩ := Prod.mk.inj (Option.some.inj h)
      obtain ⟨l2, hl2, hr⟩ := hS.rep _ _ hs
      obtain rfl : l = l2 := by rw [hl'] at hl2; exact Option.some.inj hl2
      obtain ⟨hlsz, hcell, hown⟩ := hr
      obtain ⟨hB0, hBlt, hlK, hall⟩ := hown rfl
      have hidne : id ≠ a.block := fun e => by subst e; rw [hid] at hs; cases hs
      have hkill := hS.kill hs
      have hid' : (s.set a.block .dead) id = none := by rw [AHeap.set_other _ _ hidne]; exact hid
      by_cases hroom : n + m ≤ cap
      · -- in place
        have hA' := hA.resolve_left (by omega)
        subst hA'
        have hyl : ys.length = m * te.size := by rw [← h2.length, hxl]
        have hKK : a.off + (n * te.size + m * te.size) ≤ l.K := by
          have := Nat.mul_le_mul_right te.size hroom
          rw [Nat.add_mul] at this
          rw [hlsz] at hK
          omega
        have hrun := run_append_here (w := w) (ty := ty) (B := l.B) (o := l.o + a.off) (n := n) (cap := cap) (m := m) (x' := x') (new := ys) ht hk hte hux hroom hl hys
          (fun j hj => by have := (hall (a.off + n * te.size + j) (by omega)).1; rwa [show l.o + (a.off + n * te.size + j) = l.o + a.off + n * te.size + j by omega] at this)
          (fun j hj => by have := (hall (a.off + n * te.size + j) (by omega)).2; rwa [show l.o + (a.off + n * te.size + j) = l.o + a.off + n * te.size + j by omega] at this)
          (All2.oneCell h2)
        have hap : ∀ id' b' l', (s.set a.block .dead) id' = some b' → b'.live = true → ρ id' = some l' → l'.B ≠ l.B := by
          intro id' b' l' hb' hlv hl'' hcon
          by_cases he : id' = a.block
          · subst he; rw [AHeap.set_same] at hb'; obtain rfl := Option.some.inj hb'; cases hlv
          · rw [AHeap.set_other _ _ he] at hb'
            exact hS.apart _ _ _ _ _ _ (Ne.symm he) hs hb' rfl hlv hl' hl'' hcon.symm
        have hS2 := hkill.aside hB0 hap (l.o + a.off + n * te.size) ys
        have hsome : ∀ j, j < ys.length → (w.cell? ⟨l.B, l.o + a.off + n * te.size + j, none⟩).isSome = true :=
          fun j hj => by have := (hall (a.off + n * te.size + j) (by omega)).1; rwa [show l.o + (a.off + n * te.size + j) = l.o + a.off + n * te.size + j by omega] at this
        obtain ⟨hle', hS3⟩ := hS2.name (id := id) (l := ⟨l.B, l.o + a.off, l.K - a.off, te.size⟩) (b := .cells true te.size ((cs.drop a.off).take (n * te.size) ++ xs)) hid' (by
          intro ρ' hρ
          refine ⟨rfl, ?_, fun _ => ⟨hB0, by rw [size_setCells]; exact hBlt, ?_, ?_⟩⟩
          · intro i u hu
            have hl0 : ((cs.drop a.off).take (n * te.size)).length = n * te.size := by simp; omega
            by_cases hi : i < n * te.size
            · rw [List.getElem?_append_left (by omega), List.getElem?_take_of_lt hi, List.getElem?_drop] at hu
              obtain ⟨u', e1, e2⟩ := hcell _ _ hu
              refine ⟨u', ?_, e2.mono hρ⟩
              rw [World.cell?_setCells_out _ _ _ _ _ (fun j hj => .inl (by simp; omega))]
              rwa [show l.o + a.off + i = l.o + (a.off + i) by omega]
            · rw [List.getElem?_append_right (by omega), hl0] at hu
              obtain ⟨u', e1, e2⟩ := h2.get hu
              have hj : i - n * te.size < ys.length := by
                rcases Nat.lt_or_ge (i - n * te.size) ys.length with h | h
                · exact h
                · rw [List.getElem?_eq_none h] at e1; cases e1
              refine ⟨u', ?_, e2.mono hρ⟩
              have := World.cell?_setCells_in l.B ys (l.o + a.off + n * te.size) w hsome (i - n * te.size) hj
              rw [show l.o + a.off + n * te.size + (i - n * te.size) = l.o + a.off + i by omega] at this
              rw [this, ← e1, List.getElem?_eq_getElem hj]
          · simp only [List.length_append, hxl]
            have : ((cs.drop a.off).take (n * te.size)).length = n * te.size := by simp; omega
            rw [this]; show _ ≤ l.K - a.off; omega
          · intro i hi
            rw [World.frozen?_setCells]
            have hi' : i < l.K - a.off := hi
            have hh := hall (a.off + i) (by omega)
            rw [show l.o + (a.off + i) = l.o + a.off + i by omega] at hh
            refine ⟨?_, hh.2⟩
            by_cases hin : n * te.size ≤ i ∧ i < n * te.size + ys.length
            · have := World.cell?_setCells_in l.B ys (l.o + a.off + n * te.size) w hsome (i - n * te.size) (by omega)
              rw [show l.o + a.off + n * te.size + (i - n * te.size) = l.o + a.off + i by omega] at this
              rw [this]; rfl
            · rw [World.cell?_setCells_out _ _ _ _ _ (fun _ _ => by
                by_cases hlo : i < n * te.size
                · exact .inl (by show l.o + a.off + i < _; omega)
                · exact .inr (by show _ ≤ l.o + a.off + i; omega))]
              exact hh.1)
          (fun id' b' l' hb' hlv hl'' => Ne.symm (hap id' b' l' hb' hlv hl''))
        refine ⟨_, _, _, hrun, hle', .atom (.sl (setR_same _ _ _) hroom ?_ (.inr rfl) hroom (.inl rfl)), hS3⟩
        show 0 + cap * te.size ≤ l.K - a.off
        rw [hlsz] at hK
        omega
      · -- a new block
        obtain ⟨_, ys', hys', h2'⟩ := src_sound (P := P) hS.drew hx hsrc
        obtain ⟨l3, hl3, _, old, hold2, holen, hoc⟩ := hS.drew.row hs hcl
        obtain rfl : l = l3 := by rw [hl'] at hl3; exact Option.some.inj hl3
        have hfo : (Builtin.firstCells te.size n (.slice (some A) n cap)).run P w.drew = .ok old.toArray w.drew := by
          by_cases hn0 : n = 0
          · subst hn0
            have : old = [] := by simpa using holen
            subst this
            simp [Builtin.firstCells, loadCells_zero]
          · have hA' := hA.resolve_left (by omega)
            subst hA'
            exact run_firstCells_some w.drew te.size n _ _ _ old holen hoc
        obtain ⟨nc, arr, hnc, hsz, htk, hrun⟩ := run_append_new (w := w) (ty := ty) (base := some A) (n := n) (cap := cap) ht hk hte hux (old := old) (new := ys') hz hb0 hb (by omega) hl hys' hfo holen (by rw [← h2'.length, hxl])
        have hcl2 : ((cs.drop a.off).take (n * te.size) ++ xs).length = (n + m) * te.size := by simp [hxl, Nat.add_mul]; omega
        obtain ⟨hle', hS'⟩ := hkill.drew.made (id := id) hid' (c := (cs.drop a.off).take (n * te.size) ++ xs) (arr := arr) (el := e) (sz := te.size)
          (by rw [hcl2, htk]; exact hold2.append h2') (by rw [hcl2, hsz]; exact Nat.mul_le_mul_right _ hnc)
        refine ⟨_, _, _, hrun, hle', .atom (.sl (setR_same _ _ _) hnc ?_ (.inr rfl) hnc (.inl rfl)), hS'⟩
        show 0 + nc * te.size ≤ arr.size
        omega
    · cases h
end
end Go.Proofs.Ytdbnpghckgmaoaa.Ab

/- Forests, plain: sets that grow together tell who is linked. -/
namespace Go.Proofs.Ytdbnpghckgmaoaa.TP
set_option linter.unusedVariables false
set_option linter.unusedSimpArgs false
set_option linter.unusedSectionVars false
open JP
/-- The lists of least ones tell who is linked. -/
structure Cls (w : List Int) (l : List E) : Prop where
  ok : WOk w
  len : w.length = 65
  eq : ∀ x y, 1 ≤ x → x ≤ 64 → 1 ≤ y → y ≤ 64 → (g w x = g w y ↔ Conn l x y)
theorem Cls.step {w : List Int} {l : List E} {e : E} (h : Cls w l) (ha : Node e.a) (hb : Node e.b) :
    ((runite w e.a e.b).2 = true ∧ Cls (runite w e.a e.b).1 (l ++ [e]) ∧ ¬ Conn l e.a e.b) ∨ ((runite w e.a e.b).2 = false ∧ Conn l e.a e.b) := by
  have ra : rhas w e.a := ⟨ha.1, by rw [h.len]; have := ha.2; omega⟩
  have rb : rhas w e.b := ⟨hb.1, by rw [h.len]; have := hb.2; omega⟩
  have ia : In w e.a := ⟨by have := ha.1; omega, ra.2⟩
  have ib : In w e.b := ⟨by have := hb.1; omega, rb.2⟩
  have hcon := h.eq e.a e.b ha.1 ha.2 hb.1 hb.2
  by_cases hne : g w e.a = g w e.b
  · refine .inr ⟨?_, hcon.1 hne⟩
    unfold runite; rw [if_neg (fun x => x.2.2 hne)]
  · have hr : runite w e.a e.b = (glue w (lo w e.a e.b) (hi w e.a e.b), true) := by unfold runite; rw [if_pos ⟨ra, rb, hne⟩]
    have la := h.ok.low e.a ia ha.1
    have lb := h.ok.low e.b ib hb.1
    have ka := h.ok.le e.a ia
    have kb := h.ok.le e.b ib
    have fa := h.ok.idem e.a ia
    have fb := h.ok.idem e.b ib
    have h64 : w.length = 65 := h.len
    have key : WOk (glue w (lo w e.a e.b) (hi w e.a e.b)) ∧ ∀ x, In w x → g (glue w (lo w e.a e.b) (hi w e.a e.b)) x = if g w x = hi w e.a e.b then lo w e.a e.b else g w x := by
      unfold lo hi
      by_cases hlt : g w e.b < g w e.a
      · rw [if_pos hlt, if_pos hlt]
        exact ⟨glue_ok h.ok lb hlt ⟨by omega, by have := ib.2; omega⟩ ⟨by omega, by have := ia.2; omega⟩ fb fa, fun x hx => glue_val h.ok lb hlt ⟨by omega, by have := ib.2; omega⟩ ⟨by omega, by have := ia.2; omega⟩ fb fa hx⟩
      · rw [if_neg hlt, if_neg hlt]
        have hlt' : g w e.a < g w e.b := by omega
        exact ⟨glue_ok h.ok la hlt' ⟨by omega, by have := ia.2; omega⟩ ⟨by omega, by have := ib.2; omega⟩ fa fb, fun x hx => glue_val h.ok la hlt' ⟨by omega, by have := ia.2; omega⟩ ⟨by omega, by have := ib.2; omega⟩ fa fb hx⟩
    have hlh : (lo w e.a e.b = g w e.a ∧ hi w e.a e.b = g w e.b) ∨ (lo w e.a e.b = g w e.b ∧ hi w e.a e.b = g w e.a) := by
      unfold lo hi
      by_cases hlt : g w e.b < g w e.a
      · rw [if_pos hlt, if_pos hlt]; exact .inr ⟨rfl, rfl⟩
      · rw [if_neg hlt, if_neg hlt]; exact .inl ⟨rfl, rfl⟩
    rw [hr]
    refine .inl ⟨rfl, ⟨key.1, by rw [glue_length]; exact h.len, fun x y hx1 hx2 hy1 hy2 => ?_⟩, fun hc => hne (hcon.2 hc)⟩
    have ix : In w x := ⟨by omega, by omega⟩
    have iy : In w y := ⟨by omega, by omega⟩
    show g (glue w _ _) x = g (glue w _ _) y ↔ _
    rw [key.2 x ix, key.2 y iy]
    have xa := h.eq x e.a hx1 hx2 ha.1 ha.2
    have xb := h.eq x e.b hx1 hx2 hb.1 hb.2
    have ya := h.eq e.a y ha.1 ha.2 hy1 hy2
    have yb := h.eq e.b y hb.1 hb.2 hy1 hy2
    have xy := h.eq x y hx1 hx2 hy1 hy2
    have hadd : Conn (l ++ [e]) x y ↔ Conn l x y ∨ (Conn l x e.a ∧ Conn l e.b y) ∨ (Conn l x e.b ∧ Conn l e.a y) :=
      ⟨fun hc => Conn.add (l := l) (e := e) (fun f hf => (List.mem_append.1 hf).elim .inr (fun hf => .inl (List.mem_singleton.1 hf))) hc, fun hc => Conn.add' (l := l) (e := e) (fun f hf => List.mem_append_left _ hf) (by simp) hc⟩
    rw [hadd, ← xy, ← xa, ← xb, ← ya, ← yb]
    rcases hlh with ⟨e1, e2⟩ | ⟨e1, e2⟩
    · rw [e1, e2]
      by_cases c1 : g w x = g w e.b <;> by_cases c2 : g w y = g w e.b
      · rw [if_pos c1, if_pos c2]; exact ⟨fun _ => .inl (c1.trans c2.symm), fun _ => rfl⟩
      · rw [if_pos c1, if_neg c2]; grind
      · rw [if_neg c1, if_pos c2]; grind
      · rw [if_neg c1, if_neg c2]; grind
    · rw [e1, e2]
      by_cases c1 : g w x = g w e.a <;> by_cases c2 : g w y = g w e.a
      · rw [if_pos c1, if_pos c2]; exact ⟨fun _ => .inl (c1.trans c2.symm), fun _ => rfl⟩
      · rw [if_pos c1, if_neg c2]; grind
      · rw [if_neg c1, if_pos c2]; grind
      · rw [if_neg c1, if_neg c2]; grind
end Go.Proofs.Ytdbnpghckgmaoaa.TP

/- Forests, plain: the heaviest, all that is behind a node, swaps, sides. -/
namespace Go.Proofs.Ytdbnpghckgmaoaa.TP
set_option linter.unusedVariables false
set_option linter.unusedSimpArgs false
set_option linter.unusedSectionVars false
/-! ### the order of edges -/
def less (e f : E) : Prop := e.w < f.w ∨ (e.w = f.w ∧ (e.a < f.a ∨ (e.a = f.a ∧ e.b < f.b)))
instance {e f : E} : Decidable (less e f) := by unfold less; infer_instance
theorem less_irrefl {e : E} : ¬ less e e := by unfold less; omega
theorem less_trans {e f g : E} (h : less e f) (k : less f g) : less e g := by unfold less at *; omega
theorem less_tri (e f : E) : less e f ∨ e = f ∨ less f e := by
  obtain ⟨a, b, w⟩ := e
  obtain ⟨c, d, v⟩ := f
  by_cases h : a = c ∧ b = d ∧ w = v
  · obtain ⟨rfl, rfl, rfl⟩ := h; exact .inr (.inl rfl)
  · unfold less
    simp only
    omega
/-- The last by the order. -/
def Top1 (L : List E) (h : E) : Prop := h ∈ L ∧ ∀ e ∈ L, ¬ less h e
theorem Top1.uniq {L L' : List E} {h h' : E} (hm : ∀ e, e ∈ L ↔ e ∈ L') (a : Top1 L h) (b : Top1 L' h') : h = h' := by
  rcases less_tri h h' with c | c | c
  · exact absurd c (a.2 h' ((hm h').2 b.1))
  · exact c
  · exact absurd c (b.2 h ((hm h).1 a.1))
theorem Top1.one (e : E) : Top1 [e] e := ⟨List.mem_singleton.2 rfl, fun f hf => by rw [List.mem_singleton.1 hf]; exact less_irrefl⟩
theorem Top1.up {L : List E} {h e : E} (a : Top1 L h) (hl : less h e) : Top1 (L ++ [e]) e :=
  ⟨by simp, fun f hf => by
    rcases List.mem_append.1 hf with hf | hf
    · exact fun k => a.2 f hf (less_trans hl k)
    · rw [List.mem_singleton.1 hf]; exact less_irrefl⟩
theorem Top1.stay {L : List E} {h e : E} (a : Top1 L h) (hl : ¬ less h e) : Top1 (L ++ [e]) h :=
  ⟨by simp [a.1], fun f hf => by
    rcases List.mem_append.1 hf with hf | hf
    · exact a.2 f hf
    · rw [List.mem_singleton.1 hf]; exact hl⟩
/-! ### all that is behind a node -/
variable {l : List E}
theorem below_iff (hc : Cut l) {a root w1 : Int} {t : List Int} (hw : Way l a root (a :: w1 :: t)) {e : E} (he : e ∈ l) (hh : e.has a w1) {n : Int} {p : List Int} (hp : Way l root n p) : a ∈ p ↔ Conn (rm l e) a n := by
  have hnd := List.nodup_cons.1 hw.nodup
  have hnd1 := hnd.2
  have hw1 : Way l w1 root (w1 :: t) := hw.back (u := [a]) rfl
  have nocut : ¬ Conn (rm l e) a w1 := fun h => by
    rcases hh with ⟨rfl, rfl⟩ | ⟨rfl, rfl⟩
    · exact hc e he h
    · exact hc e he h.symm
  constructor
  · intro ha
    obtain ⟨u, v, rfl⟩ := List.append_of_mem ha
    have h1 := Way.uniq hc hw.rev (hp.front rfl)
    have hw1u : w1 ∈ u := by
      have hm : w1 ∈ u ++ [a] := by rw [h1]; simp
      rcases List.mem_append.1 hm with hm | hm
      · exact hm
      · exact absurd (by rw [List.mem_singleton.1 hm]; exact List.mem_cons_self) hnd.1
    have hnp := List.nodup_append.1 hp.nodup
    refine (Way.avoid (e := e) (hp.back rfl) fun ho => ?_).conn
    have hv : w1 ∈ a :: v := by
      rcases hh with ⟨_, h1⟩ | ⟨h1, _⟩
      · exact h1 ▸ ho.mem.2
      · exact h1 ▸ ho.mem.1
    exact hnp.2.2 w1 hw1u w1 hv rfl
  · intro hcn
    obtain ⟨q, hq⟩ := Way.ex hcn.symm
    have hr : Way (rm l e) w1 root (w1 :: t) := Way.avoid hw1 fun ho => by
      have : a ∈ w1 :: t := by
        rcases hh with ⟨h1, _⟩ | ⟨_, h1⟩
        · exact h1 ▸ ho.mem.1
        · exact h1 ▸ ho.mem.2
      exact hnd.1 this
    have hall := (hq.mono rm_sub).app hw fun x hx hx2 => by
      have c1 := hq.conn_mem x hx
      have c2 := hr.conn_mem x hx2
      exact nocut (c1.symm.trans (c2.trans hr.conn.symm))
    have := Way.uniq hc hp hall.rev
    rw [← this]
    exact List.mem_reverse.2 (List.mem_append_left _ hq.mem_last)
/-! ### swaps -/
theorem Conn.lift {l' : List E} (h : ∀ f ∈ l, Conn l' f.a f.b) {x y : Int} (hc : Conn l x y) : Conn l' x y := by
  induction hc with
  | refl => exact .refl _
  | step a _ ih =>
    obtain ⟨f, hf, hh⟩ := a
    rcases hh with ⟨rfl, rfl⟩ | ⟨rfl, rfl⟩
    · exact (h f hf).trans ih
    · exact (h f hf).symm.trans ih
theorem swap_ok (hg : Good l) (hc : Cut l) {e h : E} (hem : e.may) (hcon : Conn l e.a e.b) (hh : h ∈ l) (hon : ¬ Conn (rm l h) e.a e.b) :
    (∀ f ∈ rm l h, ¬ (f.a = e.a ∧ f.b = e.b)) ∧ Good (e :: rm l h) ∧ Forest (e :: rm l h) ∧ ∀ x y, Conn l x y ↔ Conn (e :: rm l h) x y := by
  have h1 : ∀ f ∈ rm l h, ¬ (f.a = e.a ∧ f.b = e.b) := fun f hf k => hon (.one ⟨f, hf, .inl k⟩)
  have hgn : Good (e :: rm l h) := ⟨fun f hf => by
      rcases List.mem_cons.1 hf with rfl | hf
      · exact hem
      · exact hg.1 f (rm_sub f hf), List.pairwise_cons.2 ⟨fun f hf k => h1 f hf ⟨k.1.symm, k.2.symm⟩, (hg.rm h).2⟩⟩
  have hnd := hgn.2.nodup
  refine ⟨h1, hgn, ?_, fun x y => ⟨fun hxy => ?_, fun hxy => ?_⟩⟩
  · have c1 : Cut (rm l h) := hc.sub rm_sub
    have f1 : Forest (rm l h) := c1.forest (hg.rm h).2.nodup
    have f2 : Forest (rm l h ++ [e]) := Forest.snoc.2 ⟨f1, hon⟩
    have hn2 : (rm l h ++ [e]).Nodup := by
      rw [List.nodup_append]
      exact ⟨(hg.rm h).2.nodup, by simp, fun f hf g hg' k => by rw [List.mem_singleton.1 hg'] at k; exact (List.nodup_cons.1 hnd).1 (k ▸ hf)⟩
    exact ((f2.cut hn2).sub fun f hf => by
      rcases List.mem_cons.1 hf with rfl | hf
      · simp
      · exact List.mem_append_left _ hf).forest hnd
  · refine hxy.lift fun f hf => ?_
    by_cases hfh : f = h
    · subst hfh
      have s : Conn (e :: rm l f) e.a e.b := .one ⟨e, List.mem_cons_self, .inl ⟨rfl, rfl⟩⟩
      have m : ∀ {x y : Int}, Conn (rm l f) x y → Conn (e :: rm l f) x y := fun h => h.mono fun g hg => List.mem_cons_of_mem _ hg
      rcases Conn.add (l := rm l f) (e := f) (fun g hg => by
        by_cases k : g = f
        · exact .inl k
        · exact .inr (mem_rm.2 ⟨hg, k⟩)) hcon with k | ⟨k1, k2⟩ | ⟨k1, k2⟩
      · exact absurd k hon
      · exact (m k1).symm.trans (s.trans (m k2).symm)
      · exact (m k2).trans (s.symm.trans (m k1))
    · exact .one ⟨f, List.mem_cons_of_mem _ (mem_rm.2 ⟨hf, hfh⟩), .inl ⟨rfl, rfl⟩⟩
  · refine hxy.lift fun f hf => ?_
    rcases List.mem_cons.1 hf with rfl | hf
    · exact hcon
    · exact .one ⟨f, rm_sub f hf, .inl ⟨rfl, rfl⟩⟩
/-! ### sides -/
theorem cut_iff {e : E} (he : e ∈ l) {x : Int} : Conn l e.a x ↔ Conn (rm l e) e.a x ∨ Conn (rm l e) e.b x := by
  constructor
  · intro h
    rcases Conn.add (l := rm l e) (e := e) (fun g hg => by
      by_cases k : g = e
      · exact .inl k
      · exact .inr (mem_rm.2 ⟨hg, k⟩)) h with k | ⟨_, k⟩ | ⟨_, k⟩
    · exact .inl k
    · exact .inr k
    · exact .inl k
  · rintro (h | h)
    · exact h.mono rm_sub
    · exact (Conn.one ⟨e, he, .inl ⟨rfl, rfl⟩⟩).trans (h.mono rm_sub)
theorem cut_apart (hc : Cut l) {e : E} (he : e ∈ l) {x : Int} : ¬ (Conn (rm l e) e.a x ∧ Conn (rm l e) e.b x) := fun h => hc e he (h.1.trans h.2.symm)
theorem cut_len (hg : Good l) (hc : Cut l) {e : E} (he : e ∈ l) : (side l e.a).length = (side (rm l e) e.a).length + (side (rm l e) e.b).length := by
  have hn := hg.1 e he
  unfold side
  refine lkN_split (fun i _ _ => ?_) fun i _ _ h => ?_
  · rw [Bool.eq_iff_iff, Bool.or_eq_true, reachB_iff, reachB_iff, reachB_iff, cut_iff he]
    exact ⟨fun h => h.2.elim (fun k => .inl ⟨hn.1, k⟩) (fun k => .inr ⟨hn.2.1, k⟩), fun h => ⟨hn.1, h.elim (fun k => .inl k.2) (fun k => .inr k.2)⟩⟩
  · rw [reachB_iff, reachB_iff] at h
    exact cut_apart hc he ⟨h.1.2, h.2.2⟩
theorem cut_count (hg : Good l) (hc : Cut l) {e : E} (he : e ∈ l) {x : Int} (hx : x ∈ side l e.a) : (side (rm l e) e.a).count x + (side (rm l e) e.b).count x = 1 := by
  have hn := hg.1 e he
  have hl : ∀ e ∈ l, Node e.a ∧ Node e.b := fun f hf => ⟨(hg.1 f hf).1, (hg.1 f hf).2.1⟩
  have hr : ∀ f ∈ rm l e, Node f.a ∧ Node f.b := fun f hf => hl f (rm_sub f hf)
  rw [side_mem hl hn.1, cut_iff he] at hx
  have n1 : (side (rm l e) e.a).Nodup := lkN_nodup
  have n2 : (side (rm l e) e.b).Nodup := lkN_nodup
  have m1 := side_mem hr hn.1 (x := x)
  have m2 := side_mem hr hn.2.1 (x := x)
  have ap := cut_apart hc he (x := x)
  rw [← m1, ← m2] at hx
  rw [← m1, ← m2] at ap
  rcases hx with hx | hx
  · rw [n1.count, n2.count, if_pos hx, if_neg fun k => ap ⟨hx, k⟩]
  · rw [n1.count, n2.count, if_pos hx, if_neg fun k => ap ⟨k, hx⟩]
end Go.Proofs.Ytdbnpghckgmaoaa.TP

/- Slices of slices, make, aggregates, lengths, conversions, arithmetic. -/
namespace Go.Proofs.Ytdbnpghckgmaoaa.Ab
set_option linter.unusedVariables false
set_option linter.unusedSimpArgs false
set_option linter.unusedSectionVars false
open Go.RowKit

section
variable {P : Program} {W0 w : World} {ρ : Ren} {s : AHeap}

inductive OR (R : Value → Value → Prop) : Option Value → Option Value → Prop
  | none : OR R none none
  | some {x y} (h : R x y) : OR R (some x) (some y)

def bnd : Option Value → Nat → Option Nat
  | none, d => some d
  | some (.int _ i), _ => if 0 ≤ i then some i.toNat else none
  | some _, _ => none

theorem sliceBound_run {x y : Value} (h : VR ρ x y) {n d} (hb : bnd (some x) d = some n) {m : Nat} (hn : n ≤ m) (code : BoundsCode) :
    (Instr.sliceBound y m code).run P w = .ok n w := by
  unfold bnd at hb
  split at hb
  · rename_i heq; cases heq
  · rename_i k i heq
    obtain rfl := Option.some.inj heq
    split at hb
    case isFalse => cases hb
    rename_i hi
    obtain rfl := Option.some.inj hb
    obtain rfl := h.int
    have h2 : i ≤ (m : Int) := by omega
    simp [Instr.sliceBound, asIntOf, hi, h2]
  · cases hb

theorem sliceBounds_run {lo hi mx lo' hi' mx' : Option Value} (h1 : OR (VR ρ) lo lo') (h2 : OR (VR ρ) hi hi') (h3 : OR (VR ρ) mx mx') {n cap l h m : Nat}
    (e1 : bnd lo 0 = some l) (e2 : bnd hi n = some h) (e3 : bnd mx cap = some m) (hl : l ≤ h) (hh : h ≤ m) (hm : m ≤ cap) (hx : mx = none ∨ hi ≠ none) (b : Bool) :
    (Instr.sliceBounds b n cap lo' hi' mx').run P w = .ok (l, h, m) w := by
  unfold Instr.sliceBounds
  cases h3 with
  | none =>
    obtain rfl : cap = m := by simpa [bnd] using e3
    cases h2 with
    | none =>
      obtain rfl : n = h := by simpa [bnd] using e2
      cases h1 with
      | none => obtain rfl : 0 = l := by simpa [bnd] using e1
                simp
      | some r1 => simp [sliceBound_run r1 e1 hl]
    | some r2 =>
      cases h1 with
      | none => obtain rfl : 0 = l := by simpa [bnd] using e1
                simp [sliceBound_run r2 e2 hh]
      | some r1 => simp [sliceBound_run r1 e1 hl, sliceBound_run r2 e2 hh]
  | some r3 =>
    cases h2 with
    | none => rcases hx with h | h <;> simp at h
    | some r2 =>
      cases h1 with
      | none => obtain rfl : 0 = l := by simpa [bnd] using e1
                simp [sliceBound_run r2 e2 hh, sliceBound_run r3 e3 hm]
      | some r1 => simp [sliceBound_run r1 e1 hl, sliceBound_run r2 e2 hh, sliceBound_run r3 e3 hm]

def aslice (P : Program) (t : TypeId) (s : AHeap) (v : Value) (lo hi mx : Option Value) : Option Value :=
  match tdOf P t with
  | some td => match td.k, v with
    | .str, .string b => match bnd lo 0, bnd hi b.size, mx with
      | some l, some h, none => if l ≤ h ∧ h ≤ b.size then some (.string (b.extract l h)) else none
      | _, _, _ => none
    | .slice e, .slice none _ _ => match tdOf P e, bnd lo 0, bnd hi 0, bnd mx 0 with
      | some _, some l, some h, some m => if l = 0 ∧ h = 0 ∧ m = 0 ∧ (mx.isNone || hi.isSome) = true then some (.slice none 0 0) else none
      | _, _, _, _ => none
    | .slice e, .slice (some a) n c => match tdOf P e, s a.block with
      | some te, some (.cells _ sz _) => match bnd lo 0, bnd hi n, bnd mx c with
        | some l, some h, some m => if sz = te.size ∧ l ≤ h ∧ h ≤ m ∧ m ≤ c ∧ (mx.isNone || hi.isSome) = true then
            some (.slice (some ⟨a.block, a.off + l * sz, if mx.isSome then some 0 else a.spot⟩) (h - l) (m - l)) else none
        | _, _, _ => none
      | _, _ => none
    | _, _ => none
  | none => none

theorem slice_sound (hS : Sim W0 ρ s w) {t v v' x} {lo hi mx lo' hi' mx' : Option Value} (hv : VR ρ v v') (h1 : OR (VR ρ) lo lo') (h2 : OR (VR ρ) hi hi') (h3 : OR (VR ρ) mx mx')
    (h : aslice P t s v lo hi mx = some x) : ∃ x', (Instr.sliceAt t v' lo' hi' mx').run P w = .ok x' w ∧ VR ρ x x' := by
  unfold aslice at h
  split at h
  case h_2 => cases h
  rename_i td ht
  split at h
  · rename_i b hk
    split at h
    case h_2 => cases h
    rename_i l h' e1 e2
    split at h
    case isFalse => cases h
    rename_i hc
    obtain rfl := Option.some.inj h
    obtain rfl := hv.str
    cases h3
    have hb := sliceBounds_run (P := P) (w := w) h1 h2 (.none : OR (VR ρ) none none) (n := b.size) (cap := b.size) e1 e2 rfl hc.1 hc.2 (Nat.le_refl _) (.inl rfl) false
    exact ⟨_, by simp [Instr.sliceAt, Instr.slice, run_underlying (td_str ht hk), hb], .atom (.str _)⟩
  · rename_i e hk
    split at h
    case h_2 => cases h
    rename_i te l h' m hte e1 e2 e3
    split at h
    case isFalse => cases h
    rename_i hc
    obtain ⟨rfl, rfl, rfl, hx⟩ := hc
    obtain rfl := Option.some.inj h
    obtain ⟨rfl, rfl, rfl⟩ := hv.nils
    have hb := sliceBounds_run (P := P) (w := w) h1 h2 h3 (n := 0) (cap := 0) e1 e2 e3 (Nat.le_refl _) (Nat.le_refl _) (Nat.le_refl _)
      (by cases mx <;> cases hi <;> simp_all) true
    exact ⟨_, by simp [Instr.sliceAt, Instr.slice, run_underlying (td_slice ht hk), hb, td_size hte w], .atom .nils⟩
  · rename_i e a n c hk
    split at h
    case h_2 => cases h
    rename_i te rw sz cs hte hs
    split at h
    case h_2 => cases h
    rename_i l h' m e1 e2 e3
    split at h
    case isFalse => cases h
    rename_i hc
    obtain ⟨rfl, hlh, hhm, hmn, hx⟩ := hc
    obtain rfl := Option.some.inj h
    obtain ⟨lc, A, cap, hsp, hl, hle, hK, hA, rfl⟩ := hv.slice
    obtain ⟨lc', hl2, hlz, _⟩ := hS.cellsAt hs
    obtain rfl : lc = lc' := by rw [hl] at hl2; exact Option.some.inj hl2
    obtain ⟨m', e3', hm1, hm2, hm3⟩ : ∃ m', bnd mx cap = some m' ∧ m ≤ m' ∧ m' ≤ cap ∧ ((if mx.isSome then some 0 else a.spot) = none ∨ m' = m) := by
      cases mx with
      | none =>
        obtain rfl : c = m := by simpa [bnd] using e3
        refine ⟨cap, rfl, hsp.1, Nat.le_refl _, ?_⟩
        rcases hsp.2 with h | h
        · exact .inl (by simpa using h)
        · exact .inr h
      | some y => refine ⟨m, ?_, Nat.le_refl _, by omega, .inr rfl⟩
                  cases y <;> simp_all [bnd]
    have hb := sliceBounds_run (P := P) (w := w) h1 h2 h3 (n := n) (cap := cap) e1 e2 e3' hlh (by omega) hm2
      (by cases mx <;> cases hi <;> simp_all) true
    refine ⟨.slice (some (if m' = l then A else A.add (l * te.size))) (h' - l) (m' - l), ?_, ?_⟩
    · simp only [Instr.sliceAt, Sem.run_bind, run_underlying (td_slice ht hk), Result.andThen_ok, Instr.slice, hb, td_size hte w, Sem.run_pure, Option.map_some]
      split <;> rfl
    · refine .atom (.sl hl (by omega) ?_ ?_ (by omega) (hm3.imp id (by omega)))
      · rw [hlz] at hK ⊢
        have h5 := Nat.mul_le_mul_right te.size (show l + (m' - l) ≤ cap by omega)
        rw [Nat.add_mul] at h5
        show a.off + l * te.size + (m' - l) * te.size ≤ lc.K
        omega
      · by_cases hml : m' = l
        · exact .inl (by omega)
        · refine .inr ?_
          rw [if_neg hml, hA.resolve_left (by omega), addr_add, Nat.add_assoc]
  · cases h

/-! ### make -/
def zrep (n : Nat) (z : List Value) : List Value := (List.replicate n z).flatten
theorem zrep_length (n : Nat) (z : List Value) : (zrep n z).length = n * z.length := by simp [zrep]
theorem zrep_succ (n : Nat) (z : List Value) : zrep (n + 1) z = z ++ zrep n z := by simp [zrep, List.replicate_succ]

theorem range_zrep (z : Array Value) : ∀ n, ((Array.range (n * z.size)).map fun i => z[i % z.size]!).toList = zrep n z.toList := by
  intro n
  refine List.ext_getElem (by simp [zrep_length]) fun i h1 h2 => ?_
  have hz : 0 < z.size := by
    rcases Nat.eq_zero_or_pos z.size with h | h
    · simp [h] at h1
    · exact h
  have key : ∀ n i, i < n * z.size → (zrep n z.toList)[i]? = some (z[i % z.size]!) := by
    intro n
    induction n with
    | zero => intro i hi; omega
    | succ n ih =>
      intro i hi
      rw [zrep_succ]
      by_cases hlt : i < z.size
      · rw [List.getElem?_append_left (by simpa using hlt), Nat.mod_eq_of_lt hlt]
        simp [hlt]
      · rw [List.getElem?_append_right (by simpa using hlt)]
        rw [Array.length_toList, ih (i - z.size) (by rw [Nat.add_mul] at hi; omega), Nat.mod_eq_sub_mod (a := i) (by omega)]
  have := key n i (by simpa using h1)
  rw [List.getElem?_eq_getElem h2] at this
  simp only [Array.toList_map, Array.toList_range, List.getElem_map, List.getElem_range]
  exact (Option.some.inj this).symm

theorem zeroCells_zrep (z : Array Value) (n : Nat) : (Builtin.zeroCells z n).toList = zrep n z.toList := by
  unfold Builtin.zeroCells; exact range_zrep z n

def amakeSlice (P : Program) (t : TypeId) (s : AHeap) (len cap : Value) (id : Nat) : Option (Value × AHeap) :=
  match tdOf P t, len, cap with
  | some td, .int _ n, .int _ c => match td.k with
    | .slice e => match tdOf P e with
      | some te =>
        if te.zero.cells.size = te.size ∧ te.bytes ≠ 0 ∧ 0 ≤ n ∧ n ≤ c ∧ c * te.bytes ≤ 140737488355328 ∧ s id = none ∧ plB te.zero = true then
          some (.slice (some ⟨id, 0, none⟩) n.toNat n.toNat, s.set id (.cells true te.size (zrep n.toNat te.zero.cells.toList))) else none
      | none => none
    | _ => none
  | _, _, _ => none

theorem wrap64_small {x : Int} (h0 : 0 ≤ x) (h : x ≤ 140737488355328) : IntKind.i64.wrap x = x := IntWalk.i64_in _ (by omega)

theorem all2_zrep {z z' : List Value} (h : All2 (V1 ρ) z z') : ∀ n, All2 (V1 ρ) (zrep n z) (zrep n z') := by
  intro n
  induction n with
  | zero => exact .nil
  | succ n ih => rw [zrep_succ, zrep_succ]; exact h.append ih
theorem zrep_take (z : List Value) {n m : Nat} (h : n ≤ m) : (zrep m z).take (n * z.length) = zrep n z := by
  obtain ⟨k, rfl⟩ : ∃ k, m = n + k := ⟨m - n, by omega⟩
  unfold zrep
  rw [← List.replicate_append_replicate, List.flatten_append, List.take_left' (by simp)]

theorem makeSlice_sound (hS : Sim W0 ρ s w) {t v v' x x' id r s'} (hv : VR ρ v v') (hx : VR ρ x x') (h : amakeSlice P t s v x id = some (r, s')) :
    ∃ r' w' ρ', (Instr.makeSlice t v' x').run P w = .ok r' w' ∧ RLe ρ ρ' ∧ VR ρ' r r' ∧ Sim W0 ρ' s' w' := by
  unfold amakeSlice at h
  split at h
  case h_2 => cases h
  rename_i td k n k' c ht
  split at h
  case h_2 => cases h
  rename_i e hk
  split at h
  case h_2 => cases h
  rename_i te hte
  split at h
  case isFalse => cases h
  rename_i hc
  obtain ⟨hz, hb0, hn0, hnc, hb, hid, hpl⟩ := hc
  obtain ⟨rfl, rfl⟩ := Prod.mk.inj (Option.some.inj h)
  obtain rfl := hv.int
  obtain rfl := hx.int
  obtain ⟨de, ie, hde, hie, hze, hke, hse, hbe⟩ := td_parts hte
  have hb1 : (1 : Int) ≤ te.bytes := by omega
  have hcc : c ≤ c * te.bytes := by
    have := Int.mul_le_mul_of_nonneg_left hb1 (show 0 ≤ c by omega)
    omega
  have hlen : (zrep n.toNat te.zero.cells.toList).length = n.toNat * te.size := by rw [zrep_length, Array.length_toList, hz]
  obtain ⟨arr, harr, hlist⟩ : ∃ arr : Array Value, arr = madeCells te.zero.cells (c.toNat * ie.size) ∧ arr.toList = zrep c.toNat te.zero.cells.toList :=
    ⟨_, rfl, by rw [← hse, ← hz]; exact range_zrep _ _⟩
  have hsz : arr.size = c.toNat * te.size := by rw [← Array.length_toList, hlist, zrep_length, Array.length_toList, hz]
  have hzz : All2 (V1 ρ) te.zero.cells.toList te.zero.cells.toList := (plB.self ρ hpl).cells
  obtain ⟨hle, hS'⟩ := hS.made (id := id) hid (c := zrep n.toNat te.zero.cells.toList) (arr := arr) (el := e) (sz := te.size)
    (by rw [hlist, hlen, ← hz, ← Array.length_toList, zrep_take _ (by omega)]; exact all2_zrep hzz _)
    (by rw [hlen, hsz]; exact Nat.mul_le_mul_right _ (by omega))
  refine ⟨.slice (some ⟨w.heap.size, 0, none⟩) n.toNat c.toNat, _, _, ?_, hle, .atom (.sl (setR_same _ _ _) (by omega) ?_ (.inr rfl) (by omega) (.inl rfl)), hS'⟩
  · rw [harr]
    exact run_make w t e ie te.zero (td_slice ht hk) hie hze k k' n c hn0 hnc (by rw [← hbe, Int.mul_comm]; omega) (by omega)
  · show 0 + c.toNat * te.size ≤ arr.size
    omega

/-! ### parts of aggregates -/
def apart (P : Program) (t : TypeId) (cs : Array Value) (off : Nat) : Option Value :=
  match tdOf P t with
  | some td => if td.agg then some (.agg ((cs.toList.drop off).take td.size).toArray) else cs.toList[off]?
  | none => none
theorem part_sound {t off} {cs cs' : Array Value} {x : Value} (h2 : All2 (V1 ρ) cs.toList cs'.toList) (h : apart P t cs off = some x) : ∃ x', (part t cs' off).run P w = .ok x' w ∧ VB ρ x x' := by
  unfold apart at h
  split at h
  case h_2 => cases h
  rename_i td ht
  split at h
  · rename_i ha
    obtain rfl := Option.some.inj h
    refine ⟨.agg (cs'.extract off (off + td.size)), ?_, .agg ?_⟩
    · simp [part, td_agg ht w, ha, td_size ht w]
    · have : (cs'.extract off (off + td.size)).toList = (cs'.toList.drop off).take td.size := by
        rw [Array.toList_extract]; simp [List.extract_eq_take_drop]
      rw [this]
      simpa using (h2.drop off).take td.size
  · rename_i ha
    obtain ⟨v', e1, e2⟩ := h2.get h
    refine ⟨v', ?_, .v e2⟩
    have : cs'[off]? = some v' := by simpa using e1
    simp [part, td_agg ht w, ha, this]

def afieldV (P : Program) (t : TypeId) (v : Value) (f : Nat) : Option Value :=
  match tdOf P t, v with
  | some td, .agg cs => match td.k with
    | .struct fs => match fs[f]? with
      | some (o, ft) => apart P ft cs o
      | none => none
    | _ => none
  | _, _ => none
theorem fieldV_sound {t v v' f x} (hv : VR ρ v v') (h : afieldV P t v f = some x) : ∃ x', (Instr.field t v' f).run P w = .ok x' w ∧ VR ρ x x' := by
  unfold afieldV at h
  split at h
  case h_2 => cases h
  rename_i td cs ht
  split at h
  case h_2 => cases h
  rename_i fs hk
  split at h
  case h_2 => cases h
  rename_i o ft hf
  obtain ⟨cs', rfl, h2⟩ := hv.agg
  obtain ⟨gs, hg, rfl⟩ := td_struct ht hk
  rw [List.getElem?_map] at hf
  cases hgf : gs.toList[f]? with
  | none => rw [hgf] at hf; cases hf
  | some g =>
  rw [hgf] at hf
  simp only [Option.map_some, Option.some.injEq, Prod.mk.injEq] at hf
  obtain ⟨rfl, rfl⟩ := hf
  have hgf' : gs[f]? = some g := by simpa using hgf
  obtain ⟨x', e1, e2⟩ := part_sound (P := P) (w := w) h2 h
  exact ⟨x', by simp [Instr.field, run_underlying hg, hgf', asAgg, e1], .v e2⟩

def aindexV (P : Program) (t : TypeId) (v x : Value) : Option Value :=
  match tdOf P t, x with
  | some td, .int _ i => match td.k, v with
    | .array n e, .agg cs => match tdOf P e with
      | some te => if 0 ≤ i ∧ i < n then apart P e cs (i.toNat * te.size) else none
      | none => none
    | .str, .string b => if 0 ≤ i then (match b.data[i.toNat]? with
      | some c => some (.int .u8 c.toNat)
      | none => none) else none
    | _, _ => none
  | _, _ => none
theorem indexV_sound {t v v' y y' x} (hv : VR ρ v v') (hy : VR ρ y y') (h : aindexV P t v y = some x) : ∃ x', (Instr.index t v' y').run P w = .ok x' w ∧ VR ρ x x' := by
  unfold aindexV at h
  split at h
  case h_2 => cases h
  rename_i td k i ht
  obtain rfl := hy.int
  split at h
  · rename_i n e cs hk
    split at h
    case h_2 => cases h
    rename_i te hte
    split at h
    case isFalse => cases h
    rename_i hi
    obtain ⟨cs', rfl, h2⟩ := hv.agg
    obtain ⟨x', e1, e2⟩ := part_sound (P := P) (w := w) h2 h
    exact ⟨x', by simp [Instr.index, asIntOf, run_underlying (td_array ht hk), hi, td_size hte w, e1], .v e2⟩
  · rename_i b hk
    split at h
    case isFalse => cases h
    rename_i hi
    split at h
    case h_2 => cases h
    rename_i c hc
    obtain rfl := Option.some.inj h
    obtain rfl := hv.str
    have hc' : b[i.toNat]? = some c := by
      obtain ⟨h1, h2⟩ := Array.getElem?_eq_some_iff.1 hc
      exact getElem?_eq_some_iff.2 ⟨h1, h2⟩
    exact ⟨_, by simp [Instr.index, asIntOf, run_underlying (td_str ht hk), hi, hc'], .atom (.int _ _)⟩
  · cases h

def aextract (v : Value) (i : Nat) : Option Value :=
  match v with
  | .tuple vs => vs.toList[i]?
  | _ => none
theorem extract_sound {v v' i x} (hv : VR ρ v v') (h : aextract v i = some x) : ∃ x', (Instr.extract v' i).run P w = .ok x' w ∧ VR ρ x x' := by
  unfold aextract at h
  split at h
  case h_2 => cases h
  obtain ⟨cs', rfl, h2⟩ := hv.tup'
  obtain ⟨x', e1, e2⟩ := h2.get h
  have : cs'[i]? = some x' := by simpa using e1
  exact ⟨x', by simp [Instr.extract, this], .v e2⟩

/-! ### aggregates put together -/
def afill (place : Nat → Option (Nat × Nat)) : List Value → List (Nat × Value) → Option (List Value)
  | cs, [] => some cs
  | cs, (i, v) :: r => match place i with
    | some (off, size) => if v.cells.size = size ∧ off + size ≤ cs.length ∧ notTup v = true then afill place (splice cs off v.cells.toList) r else none
    | none => none

theorem foldl_splice (off : Nat) : ∀ (vs : List Value) (k : Nat) (cs : Array Value),
    ((vs.zipIdx k).foldl (fun (cs : Array Value) (x : Value × Nat) => cs.setIfInBounds (off + x.2) x.1) cs).toList = splice cs.toList (off + k) vs
  | [], _, _ => rfl
  | v :: r, k, cs => by
    rw [List.zipIdx_cons, List.foldl_cons, foldl_splice off r (k + 1), splice]
    simp [Nat.add_assoc]

theorem splice_rel {cs cs' vs vs' : List Value} (h : All2 (V1 ρ) cs cs') (hv : All2 (V1 ρ) vs vs') : ∀ off, All2 (V1 ρ) (splice cs off vs) (splice cs' off vs') := by
  induction hv generalizing cs cs' with
  | nil => intro off; exact h
  | cons a r ih => intro off; exact ih (h.set off a) (off + 1)

inductive PartsR (ρ : Ren) : List (Nat × Value) → List (Nat × Value) → Prop
  | nil : PartsR ρ [] []
  | cons {i v v' r r'} (h : VR ρ v v') (hr : PartsR ρ r r') : PartsR ρ ((i, v) :: r) ((i, v') :: r')

theorem fill_sound {place : Nat → Option (Nat × Nat)} {parts parts' : List (Nat × Value)} (hp : PartsR ρ parts parts') : ∀ {cs : List Value} {cs' : Array Value} {r : List Value}, All2 (V1 ρ) cs cs'.toList →
    afill place cs parts = some r → ∃ r' : Array Value, Instr.fill place cs' parts' = some r' ∧ All2 (V1 ρ) r r'.toList := by
  induction hp with
  | nil => intro cs cs' r h2 h; obtain rfl := Option.some.inj h; exact ⟨cs', rfl, h2⟩
  | @cons i v v' rr rr' hv hr ih =>
    intro cs cs' r h2 h
    simp only [afill] at h
    split at h
    case h_2 => cases h
    rename_i off size hpl
    split at h
    case isFalse => cases h
    rename_i hc
    obtain ⟨hc1, hc2, hc3⟩ := hc
    have hb := (hv.toB fun b e => by subst e; cases hc3).cells
    have hlen := hb.length
    simp only [Array.length_toList] at hlen
    have h2l := h2.length
    simp only [Array.length_toList] at h2l
    have key : (v'.cells.zipIdx.foldl (fun (cs : Array Value) (x : Value × Nat) => cs.setIfInBounds (off + x.2) x.1) cs').toList = splice cs'.toList off v'.cells.toList := by
      rw [← Array.foldl_toList, Array.toList_zipIdx]
      simpa using foldl_splice off v'.cells.toList 0 cs'
    obtain ⟨r', e1, e2⟩ := ih (cs' := v'.cells.zipIdx.foldl (fun (cs : Array Value) (x : Value × Nat) => cs.setIfInBounds (off + x.2) x.1) cs') (by rw [key]; exact splice_rel h2 hb off) h
    refine ⟨r', ?_, e2⟩
    simp only [Instr.fill, hpl]
    rw [if_neg (by simp; omega)]
    exact e1

def fldPlaces (P : Program) : List (Nat × TypeId) → Option (List (Nat × Nat))
  | [] => some []
  | (o, t) :: r => match tdOf P t, fldPlaces P r with
    | some td, some l => some ((o, td.size) :: l)
    | _, _ => none

def abuild (P : Program) (t : TypeId) (parts : List (Nat × Value)) : Option Value :=
  match tdOf P t with
  | some td => if plB td.zero = true then match td.k with
    | .struct fs => match fldPlaces P fs with
      | some pl => (afill (pl[·]?) td.zero.cells.toList parts).map fun l => .agg l.toArray
      | none => none
    | .array _ e => match tdOf P e with
      | some te => (afill (fun i => some (i * te.size, te.size)) td.zero.cells.toList parts).map fun l => .agg l.toArray
      | none => none
    | _ => none
    else none
  | none => none

theorem fldPlaces_run : ∀ (gs : List Field) {pl}, fldPlaces P (gs.map fun f => (f.offset, f.type)) = some pl →
    ∀ w : World, (gs.mapM (m := Sem) fun f => Prod.mk f.offset <$> sizeOf f.type).run P w = .ok pl w
  | [], pl, h, w => by obtain rfl := Option.some.inj h; simp
  | g :: gs, pl, h, w => by
    simp only [List.map_cons, fldPlaces] at h
    split at h
    case h_2 => cases h
    rename_i td l ht hl
    obtain rfl := Option.some.inj h
    simp [td_size ht, fldPlaces_run gs hl]

theorem build_sound {t} {parts parts' : Array (Nat × Value)} {x} (hp : PartsR ρ parts.toList parts'.toList) (h : abuild P t parts.toList = some x) :
    ∃ x', (Instr.build t parts').run P w = .ok x' w ∧ VR ρ x x' := by
  unfold abuild at h
  split at h
  case h_2 => cases h
  rename_i td ht
  split at h
  case isFalse => cases h
  rename_i hpl
  have hzz : All2 (V1 ρ) td.zero.cells.toList td.zero.cells.toList := (plB.self ρ hpl).cells
  split at h
  · rename_i fs hk
    split at h
    case h_2 => cases h
    rename_i pl hfp
    obtain ⟨gs, hg, rfl⟩ := td_struct ht hk
    cases hf : afill (pl[·]?) td.zero.cells.toList parts.toList with
    | none => rw [hf] at h; cases h
    | some l =>
    rw [hf] at h
    obtain rfl := Option.some.inj h
    obtain ⟨r', e1, e2⟩ := fill_sound hp hzz hf
    refine ⟨.agg r', ?_, .v (.agg (by simpa using e2))⟩
    have hm := fldPlaces_run gs.toList hfp w
    have hm' : (gs.mapM (m := Sem) fun f => Prod.mk f.offset <$> sizeOf f.type).run P w = .ok pl.toArray w := by
      rw [Array.mapM_eq_mapM_toList]; simp only [Sem.run_map, hm, Result.andThen_ok]
    simp [Instr.build, td_zero ht, run_underlying hg, hm', e1]
  · rename_i n e hk
    split at h
    case h_2 => cases h
    rename_i te hte
    cases hf : afill (fun i => some (i * te.size, te.size)) td.zero.cells.toList parts.toList with
    | none => rw [hf] at h; cases h
    | some l =>
    rw [hf] at h
    obtain rfl := Option.some.inj h
    obtain ⟨r', e1, e2⟩ := fill_sound hp hzz hf
    exact ⟨.agg r', by simp [Instr.build, td_zero ht, run_underlying (td_array ht hk), td_size hte, e1], .v (.agg (by simpa using e2))⟩
  · cases h

def abuildSlice (P : Program) (t : TypeId) (len : Nat) (parts : List (Nat × Value)) (s : AHeap) (id : Nat) : Option (Value × AHeap) :=
  match tdOf P t with
  | some td => match td.k with
    | .slice e => match tdOf P e with
      | some te => if te.zero.cells.size = te.size ∧ len * te.size ≤ 16777216 ∧ plB te.zero = true ∧ s id = none then
          match afill (fun i => some (i * te.size, te.size)) (zrep len te.zero.cells.toList) parts with
          | some l => some (.slice (some ⟨id, 0, none⟩) len len, s.set id (.cells true te.size l))
          | none => none
          else none
      | none => none
    | _ => none
  | none => none

theorem afill_length {place} : ∀ {parts : List (Nat × Value)} {cs r : List Value}, afill place cs parts = some r → r.length = cs.length
  | [], cs, r, h => by obtain rfl := Option.some.inj h; rfl
  | (i, v) :: p, cs, r, h => by
    simp only [afill] at h
    split at h
    case h_2 => cases h
    split at h
    case isFalse => cases h
    rw [afill_length h, splice_length]

theorem buildSlice_sound (hS : Sim W0 ρ s w) {t len} {parts parts' : Array (Nat × Value)} {x s' id} (hp : PartsR ρ parts.toList parts'.toList) (h : abuildSlice P t len parts.toList s id = some (x, s')) :
    ∃ x' w' ρ', (Instr.buildSlice t len parts').run P w = .ok x' w' ∧ RLe ρ ρ' ∧ VR ρ' x x' ∧ Sim W0 ρ' s' w' := by
  unfold abuildSlice at h
  split at h
  case h_2 => cases h
  rename_i td ht
  split at h
  case h_2 => cases h
  rename_i e hk
  split at h
  case h_2 => cases h
  rename_i te hte
  split at h
  case isFalse => cases h
  rename_i hc
  obtain ⟨hz, hlen, hpl, hid⟩ := hc
  split at h
  case h_2 => cases h
  rename_i l hf
  obtain ⟨rfl, rfl⟩ := Prod.mk.inj (Option.some.inj h)
  have hzz : All2 (V1 ρ) te.zero.cells.toList te.zero.cells.toList := (plB.self ρ hpl).cells
  obtain ⟨r', e1, e2⟩ := fill_sound (cs' := madeCells te.zero.cells (len * te.zero.cells.size)) hp (by unfold madeCells; rw [range_zrep]; exact all2_zrep hzz len) hf
  have hl : l.length = len * te.size := by rw [afill_length hf, zrep_length, Array.length_toList, hz]
  have hr : r'.size = len * te.size := by rw [← Array.length_toList, ← e2.length, hl]
  obtain ⟨hle, hS'⟩ := hS.made (id := id) hid (c := l) (arr := r') (el := e) (sz := te.size) (by rw [hl, ← hr, ← Array.length_toList, List.take_length]; exact e2) (by omega)
  refine ⟨.slice (some ⟨w.heap.size, 0, none⟩) len len, _, _, ?_, hle, .atom (.sl (setR_same _ _ _) (Nat.le_refl _) (by show 0 + len * te.size ≤ r'.size; omega) (.inr rfl) (Nat.le_refl _) (.inl rfl)), hS'⟩
  unfold madeCells at e1
  rw [hz] at e1
  have hgt : ¬ (len * te.size > 2 ^ 24) := by omega
  have hgt' : ¬ (16777216 < len * te.size) := by omega
  by_cases h0 : len * te.size = 0
  · rw [h0, Array.range_zero', Array.map_empty] at e1
    simp [Instr.buildSlice, run_underlying (td_slice ht hk), td_size hte, h0, newRow, Array.range_zero', e1]
  · simp [Instr.buildSlice, run_underlying (td_slice ht hk), td_size hte, h0, hgt', td_zero hte, newRow, hz, e1]
end
end Go.Proofs.Ytdbnpghckgmaoaa.Ab

/- Views, plain: which may be, the links that both ends know, the edges that both ends have marked. No program, no memory. -/
namespace Go.Proofs.Ytdbnpghckgmaoaa.VP
set_option linter.unusedVariables false
set_option linter.unusedSimpArgs false
set_option linter.unusedSectionVars false
open TP
structure Kn where
  node : Int
  peer : Int
  w : Int
  ss : Int
  md : Bool
deriving DecidableEq
def Kn.ok (N : List Int) (k : Kn) : Prop := k.node ∈ N ∧ Node k.peer ∧ k.node ≠ k.peer ∧ 0 ≤ k.w ∧ k.w ≤ 2147483647 ∧ 1 ≤ k.ss ∧ k.ss ≤ 2147483647
instance {N : List Int} {k : Kn} : Decidable (k.ok N) := by unfold Kn.ok; infer_instance
def ahead (a b : Kn) : Prop := a.node < b.node ∨ (a.node = b.node ∧ a.peer < b.peer)
instance {a b : Kn} : Decidable (ahead a b) := by unfold ahead; infer_instance
theorem ahead_trans {a b c : Kn} (h : ahead a b) (k : ahead b c) : ahead a c := by unfold ahead at *; omega
theorem ahead_irrefl {a : Kn} : ¬ ahead a a := by unfold ahead; omega
def NOk (N : List Int) : Prop := (∀ x ∈ N, Node x) ∧ N.Pairwise (· < ·)
def LOk (N : List Int) (L : List Kn) : Prop := (∀ k ∈ L, k.ok N) ∧ L.Pairwise ahead
def MayV (N : List Int) (L : List Kn) : Prop := NOk N ∧ LOk N L
theorem pw_snoc {α : Type} {R : α → α → Prop} (ht : ∀ a b c, R a b → R b c → R a c) {l : List α} {i : Nat} {x : α} (hl : (l.take i).Pairwise R) (hx : l[i]? = some x) : (l.take (i + 1)).Pairwise R ↔ (i = 0 ∨ ∃ y, l[i - 1]? = some y ∧ R y x) := by
  have htk : l.take (i + 1) = l.take i ++ [x] := by rw [List.take_add_one, hx]; rfl
  have hlen := (List.getElem?_eq_some_iff.1 hx).1
  rw [htk, List.pairwise_append]
  constructor
  · rintro ⟨_, _, h⟩
    by_cases hi : i = 0
    · exact .inl hi
    · obtain ⟨y, hy⟩ : ∃ y, l[i - 1]? = some y := ⟨_, List.getElem?_eq_getElem (by omega)⟩
      refine .inr ⟨y, hy, h y ?_ x (by simp)⟩
      exact List.mem_of_getElem? (i := i - 1) (by rw [List.getElem?_take, if_pos (by omega)]; exact hy)
  · intro h
    refine ⟨hl, by simp, fun y hy z hz => ?_⟩
    rw [List.mem_singleton] at hz; subst hz
    rcases h with rfl | ⟨u, hu, hux⟩
    · simp at hy
    · obtain ⟨j, hj⟩ := List.mem_iff_getElem?.1 hy
      have hji : j < i := by have := (List.getElem?_eq_some_iff.1 hj).1; rw [List.length_take] at this; omega
      by_cases hjl : j = i - 1
      · rw [List.getElem?_take, if_pos hji, hjl, hu] at hj
        obtain rfl := Option.some.inj hj; exact hux
      · have h2 : (l.take i)[i - 1]? = some u := by rw [List.getElem?_take, if_pos (by omega)]; exact hu
        obtain ⟨a1, a2⟩ := List.getElem?_eq_some_iff.1 hj
        obtain ⟨b1, b2⟩ := List.getElem?_eq_some_iff.1 h2
        have := List.pairwise_iff_getElem.1 hl j (i - 1) a1 b1 (by omega)
        rw [a2, b2] at this
        exact ht _ _ _ this hux
theorem NOk.nodup {N : List Int} (h : NOk N) : N.Nodup := h.2.imp fun h e => by omega
theorem LOk.eq {N : List Int} {L : List Kn} (h : LOk N L) {a b : Kn} (ha : a ∈ L) (hb : b ∈ L) (h1 : a.node = b.node) (h2 : a.peer = b.peer) : a = b := by
  obtain ⟨i, hi⟩ := List.mem_iff_getElem?.1 ha
  obtain ⟨j, hj⟩ := List.mem_iff_getElem?.1 hb
  obtain ⟨a1, a2⟩ := List.getElem?_eq_some_iff.1 hi
  obtain ⟨b1, b2⟩ := List.getElem?_eq_some_iff.1 hj
  have no : ∀ x y : Kn, ahead x y → x.node = y.node → x.peer = y.peer → False := fun x y h e1 e2 => by unfold ahead at h; omega
  rcases Nat.lt_trichotomy i j with hij | rfl | hij
  · have := List.pairwise_iff_getElem.1 h.2 i j a1 b1 hij
    rw [a2, b2] at this; exact (no _ _ this h1 h2).elim
  · rw [← a2, ← b2]
  · have := List.pairwise_iff_getElem.1 h.2 j i b1 a1 hij
    rw [a2, b2] at this; exact (no _ _ this h1.symm h2.symm).elim
theorem LOk.nodup {N : List Int} {L : List Kn} (h : LOk N L) : L.Nodup := h.2.imp fun {a b} hab e => by subst e; exact ahead_irrefl hab
/-! ### links that both ends know alike -/
def mt (k r : Kn) : Option Kn := if k.node < k.peer ∧ k.node = r.peer ∧ k.peer = r.node ∧ k.w = r.w ∧ k.ss = r.ss then some { k with md := k.md && r.md } else none
def inn (L : List Kn) : List Kn := L.flatMap fun k => L.filterMap (mt k)
theorem mt_some {k r x : Kn} : mt k r = some x ↔ (k.node < k.peer ∧ k.node = r.peer ∧ k.peer = r.node ∧ k.w = r.w ∧ k.ss = r.ss) ∧ x = { k with md := k.md && r.md } := by
  unfold mt
  split
  · rename_i h; exact ⟨fun e => ⟨h, (Option.some.inj e).symm⟩, fun e => by rw [e.2]⟩
  · rename_i h; exact ⟨fun e => (by cases e), fun e => absurd e.1 h⟩
theorem mt_none {k r : Kn} (h : ¬ (k.peer = r.node ∧ k.node = r.peer)) : mt k r = none := by
  unfold mt; rw [if_neg fun e => h ⟨e.2.2.1, e.2.1⟩]
theorem filterMap_none {L : List Kn} {k : Kn} (h : ∀ r ∈ L, mt k r = none) : L.filterMap (mt k) = [] := by
  induction L with
  | nil => rfl
  | cons a l ih => rw [List.filterMap_cons, h a (by simp)]; exact ih fun r hr => h r (by simp [hr])
/-- A link's other end, if it is told: the one that counts. -/
theorem inn_at {N : List Int} {L : List Kn} (h : LOk N L) {k r : Kn} (hr : r ∈ L) (h1 : r.node = k.peer) (h2 : r.peer = k.node) : L.filterMap (mt k) = (mt k r).toList := by
  obtain ⟨l1, l2, rfl⟩ := List.append_of_mem hr
  have hn := h.nodup
  have hx : ∀ x ∈ l1 ++ l2, mt k x = none := fun x hx => mt_none fun e => by
    have hxm : x ∈ l1 ++ r :: l2 := by rcases List.mem_append.1 hx with hx | hx <;> simp [hx]
    have := h.eq hxm hr (e.1.symm.trans h1.symm) (e.2.symm.trans h2.symm)
    subst this
    rw [List.nodup_append] at hn
    rcases List.mem_append.1 hx with hx | hx
    · exact hn.2.2 x hx x (by simp) rfl
    · exact (List.nodup_cons.1 hn.2.1).1 hx
  rw [List.filterMap_append, List.filterMap_cons, filterMap_none (fun x hx' => hx x (by simp [hx'])), filterMap_none (L := l2) (fun x hx' => hx x (by simp [hx']))]
  cases mt k r <;> rfl
theorem inn_no {L : List Kn} {k : Kn} (h : ∀ r ∈ L, ¬ (r.node = k.peer ∧ r.peer = k.node)) : L.filterMap (mt k) = [] := filterMap_none fun r hr => mt_none fun e => h r hr ⟨e.1.symm, e.2.symm⟩
theorem inn_one {N : List Int} {L : List Kn} (h : LOk N L) (k : Kn) : (L.filterMap (mt k)).length ≤ 1 := by
  by_cases hr : ∃ r ∈ L, r.node = k.peer ∧ r.peer = k.node
  · obtain ⟨r, hr, h1, h2⟩ := hr
    rw [inn_at h hr h1 h2]
    cases mt k r <;> simp
  · rw [inn_no fun r hr' e => hr ⟨r, hr', e⟩]; simp
theorem inn_mem {L : List Kn} {x : Kn} : x ∈ inn L ↔ ∃ k ∈ L, ∃ r ∈ L, mt k r = some x := by
  unfold inn
  simp only [List.mem_flatMap, List.mem_filterMap]
theorem flatMap_len {L M : List Kn} (h : ∀ k, (M.filterMap (mt k)).length ≤ 1) : (L.flatMap fun k => M.filterMap (mt k)).length ≤ L.length := by
  induction L with
  | nil => simp
  | cons a l ih => rw [List.flatMap_cons, List.length_append, List.length_cons]; have := h a; omega
theorem inn_len {N : List Int} {L : List Kn} (h : LOk N L) : (inn L).length ≤ L.length := flatMap_len (inn_one h)
/-- A link's edge. -/
def edg (k : Kn) : E := if k.peer < k.node then ⟨k.peer, k.node, k.w⟩ else ⟨k.node, k.peer, k.w⟩
/-- The edges that both ends have marked. -/
def bnd (L : List Kn) : List E := ((inn L).filter fun k => k.md).map edg
theorem bnd_len {N : List Int} {L : List Kn} (h : LOk N L) : (bnd L).length ≤ L.length := by
  unfold bnd; rw [List.length_map]; exact Nat.le_trans (List.length_filter_le _ _) (inn_len h)
/-- Both ends of a bound edge are among the nodes. -/
theorem bnd_mem {N : List Int} {L : List Kn} (hN : NOk N) (h : LOk N L) {e : E} (he : e ∈ bnd L) : e.may ∧ e.a ∈ N ∧ e.b ∈ N ∧ ∃ k ∈ L, k.node = e.a ∧ k.peer = e.b ∧ k.w = e.w := by
  unfold bnd at he
  obtain ⟨x, hx, rfl⟩ := List.mem_map.1 he
  obtain ⟨hx, _⟩ := List.mem_filter.1 hx
  obtain ⟨k, hk, r, hr, hm⟩ := inn_mem.1 hx
  obtain ⟨⟨h1, h2, h3, h4, h5⟩, rfl⟩ := mt_some.1 hm
  obtain ⟨a1, a2, a3, a4, a5, _⟩ := h.1 k hk
  obtain ⟨b1, b2, _⟩ := h.1 r hr
  have e1 : edg { k with md := k.md && r.md } = ⟨k.node, k.peer, k.w⟩ := if_neg (show ¬ k.peer < k.node by omega)
  rw [e1]
  exact ⟨⟨hN.1 _ a1, a2, h1, a4, a5⟩, a1, by show k.peer ∈ N; rw [h3]; exact b1, k, hk, rfl, rfl, rfl⟩
theorem inn_apart {N : List Int} {L : List Kn} (h : LOk N L) : ∀ (M : List Kn), M.Sublist L → (M.flatMap fun k => L.filterMap (mt k)).Pairwise fun a b => ¬ (a.node = b.node ∧ a.peer = b.peer)
  | [], _ => by simp
  | k :: M, hs => by
    have hM : M.Sublist L := (List.sublist_cons_self k M).trans hs
    have hkM : k ∉ M := (List.nodup_cons.1 (h.nodup.sublist hs)).1
    rw [List.flatMap_cons, List.pairwise_append]
    refine ⟨?_, inn_apart h M hM, fun a ha b hb e => ?_⟩
    · have := inn_one h k
      match L.filterMap (mt k), this with
      | [], _ => exact List.Pairwise.nil
      | [x], _ => simp
    · obtain ⟨r, _, hr⟩ := List.mem_filterMap.1 ha
      obtain ⟨k', hk', hb⟩ := List.mem_flatMap.1 hb
      obtain ⟨r', _, hr'⟩ := List.mem_filterMap.1 hb
      obtain ⟨_, rfl⟩ := mt_some.1 hr
      obtain ⟨_, rfl⟩ := mt_some.1 hr'
      have := h.eq (a := k) (hs.subset (by simp)) (hM.subset hk') e.1 e.2
      subst this; exact hkM hk'
theorem bnd_good {N : List Int} {L : List Kn} (hN : NOk N) (h : LOk N L) : Good (bnd L) := by
  refine ⟨fun e he => (bnd_mem hN h he).1, ?_⟩
  have hp := inn_apart h L (List.Sublist.refl _)
  unfold Apart bnd
  refine List.pairwise_map.2 ?_
  refine (List.Pairwise.filter _ ?_)
  refine List.Pairwise.imp_of_mem (R := fun a b => ¬ (a.node = b.node ∧ a.peer = b.peer)) (fun {a b} ha hb hab e => ?_) hp
  obtain ⟨k, hk, r, hr, hm⟩ := inn_mem.1 ha
  obtain ⟨k', hk', r', hr', hm'⟩ := inn_mem.1 hb
  obtain ⟨⟨h1, _⟩, rfl⟩ := mt_some.1 hm
  obtain ⟨⟨h1', _⟩, rfl⟩ := mt_some.1 hm'
  have e1 : edg { k with md := k.md && r.md } = ⟨k.node, k.peer, k.w⟩ := if_neg (show ¬ k.peer < k.node by omega)
  have e2 : edg { k' with md := k'.md && r'.md } = ⟨k'.node, k'.peer, k'.w⟩ := if_neg (show ¬ k'.peer < k'.node by omega)
  rw [e1, e2] at e
  exact hab e
end Go.Proofs.Ytdbnpghckgmaoaa.VP

/- Arithmetic, comparisons, lengths, conversions, copy, maps. -/
namespace Go.Proofs.Ytdbnpghckgmaoaa.Ab
set_option linter.unusedVariables false
set_option linter.unusedSimpArgs false
set_option linter.unusedSectionVars false
open Go.RowKit

section
variable {P : Program} {W0 w : World} {ρ : Ren} {s : AHeap}

/-! ### plain values stand for themselves -/
theorem plA.eq {x y : Value} (h : VA ρ x y) (hp : plA x = true) : y = x := by
  cases h <;> first | rfl | simp [plA] at hp
theorem All2.eq_of {R : Value → Value → Prop} {p : Value → Bool} (h : ∀ x y, R x y → p x = true → y = x) : ∀ {l l' : List Value}, All2 R l l' → l.all p = true → l' = l
  | _, _, .nil, _ => rfl
  | _, _, .cons a r, hp => by
    simp only [List.all_cons, Bool.and_eq_true] at hp
    rw [h _ _ a hp.1, All2.eq_of h r hp.2]
theorem arr_eq {a b : Array Value} (h : a.toList = b.toList) : a = b := Array.ext' h
theorem pl1.eq {x y : Value} (h : V1 ρ x y) (hp : pl1 x = true) : y = x := by
  cases h with
  | a h => exact plA.eq h (by cases h <;> simpa [pl1] using hp)
  | fn h1 h2 =>
    simp only [pl1, Bool.and_eq_true] at hp
    rw [arr_eq (All2.eq_of (fun _ _ => plA.eq) h1 hp.1), arr_eq (All2.eq_of (fun _ _ => plA.eq) h2 hp.2)]
theorem plB.eq {x y : Value} (h : VB ρ x y) (hp : plB x = true) : y = x := by
  cases h with
  | v h => exact pl1.eq h (by cases h with | a h => cases h <;> simpa [plB] using hp | fn => simpa [plB] using hp)
  | agg h => rw [arr_eq (All2.eq_of (fun _ _ => pl1.eq) h hp)]
theorem plR.eq {x y : Value} (h : VR ρ x y) (hp : plR x = true) : y = x := by
  cases h with
  | v h => exact plB.eq h (by
      cases h with
      | v h => cases h with | a h => cases h <;> simpa [plR] using hp | fn => simpa [plR] using hp
      | agg => simpa [plR] using hp)
  | tup h => rw [arr_eq (All2.eq_of (fun _ _ => plB.eq) h hp)]

/-! ### operators -/
def aint (op : BinOp) (k : IntKind) (a : Int) (k' : IntKind) (b : Int) : Option Value :=
  match op with
  | .shl => if 0 ≤ b then some (.int k (k.wrap (a * 2 ^ (min b.toNat k.bits)))) else none
  | .shr => if 0 ≤ b then some (.int k (a.fdiv (2 ^ (min b.toNat k.bits)))) else none
  | .add => if k = k' then some (.int k (k.wrap (a + b))) else none
  | .sub => if k = k' then some (.int k (k.wrap (a - b))) else none
  | .mul => if k = k' then some (.int k (k.wrap (a * b))) else none
  | .quo => if k = k' ∧ b ≠ 0 then some (.int k (k.wrap (a.tdiv b))) else none
  | .rem => if k = k' ∧ b ≠ 0 then some (.int k (a.tmod b)) else none
  | .and => if k = k' then some (.int k (bits .and k a b)) else none
  | .or => if k = k' then some (.int k (bits .or k a b)) else none
  | .xor => if k = k' then some (.int k (bits .xor k a b)) else none
  | .andNot => if k = k' then some (.int k (bits .andNot k a b)) else none
  | .eql => if k = k' then some (.bool (decide (a = b))) else none
  | .neq => if k = k' then some (.bool (decide (a ≠ b))) else none
  | .lss => if k = k' then some (.bool (decide (a < b))) else none
  | .leq => if k = k' then some (.bool (decide (a ≤ b))) else none
  | .gtr => if k = k' then some (.bool (decide (a > b))) else none
  | .geq => if k = k' then some (.bool (decide (a ≥ b))) else none

theorem aint_sound {op k a k' b v t} (h : aint op k a k' b = some v) (w : World) : (binOp op t (.int k a) (.int k' b)).run P w = .ok v w ∧ plA v = true := by
  cases op <;> simp only [aint] at h
  case shl =>
    split at h
    · obtain rfl := Option.some.inj h
      rename_i hb
      have : ¬ b < 0 := by omega
      simp [binOp, Op.shift, this, plA]
    · cases h
  case shr =>
    split at h
    · obtain rfl := Option.some.inj h
      rename_i hb
      have : ¬ b < 0 := by omega
      simp [binOp, Op.shift, this, plA]
    · cases h
  case quo =>
    split at h
    · rename_i hb
      obtain rfl := Option.some.inj h
      obtain ⟨rfl, hb⟩ := hb
      simp [binOp, Op.intDiv, hb, plA]
    · cases h
  case rem =>
    split at h
    · rename_i hb
      obtain rfl := Option.some.inj h
      obtain ⟨rfl, hb⟩ := hb
      simp [binOp, Op.intDiv, hb, plA]
    · cases h
  all_goals first
    | cases h
    | (split at h
       · rename_i hk
         subst hk
         obtain rfl := Option.some.inj h
         first
         | (simp [binOp, Op.intArith, plA]; done)
         | (simp [binOp_and, binOp_or, binOp_xor, binOp_andNot, intBits_and, intBits_or, intBits_xor, intBits_andNot, plA]; done)
         | (simp [binOp, Op.intCmp, plA]; done)
         | (refine ⟨?_, rfl⟩; simp only [binOp, Op.intCmp]; rw [if_neg (by simp)]; simp only [Sem.run_pure]; congr 2; try (rw [Bool.eq_iff_iff]; simp))
       · cases h)

def abin (P : Program) (op : BinOp) (t : TypeId) (x y : Value) : Option Value :=
  match x, y with
  | .int k a, .int k' b => aint op k a k' b
  | .bool a, .bool b => match tdOf P t with
    | some td => match td.k, op with
      | .bool, .eql => some (.bool (a == b))
      | .bool, .neq => some (.bool (!(a == b)))
      | _, _ => none
    | none => none
  | .string a, .string b => match op with
    | .eql => some (.bool (decide (a.data.toList = b.data.toList)))
    | .neq => some (.bool (!decide (a.data.toList = b.data.toList)))
    | .add => if a.size + b.size ≤ 9223372036854775807 then some (.string (a ++ b)) else none
    | _ => none
  | .pointer a, .pointer none => match tdOf P t with
    | some td => match td.k, op with
      | .ptr _, .eql => some (.bool a.isNone)
      | .ptr _, .neq => some (.bool a.isSome)
      | _, _ => none
    | none => none
  | .slice a _ _, .slice none _ _ => match tdOf P t with
    | some td => match td.k, op with
      | .slice _, .eql => some (.bool a.isNone)
      | .slice _, .neq => some (.bool a.isSome)
      | _, _ => none
    | none => none
  | _, _ => none

theorem toList_bytes (a : ByteArray) : a.toList = a.data.toList := by
  unfold ByteArray.toList
  have key : ∀ (n i : Nat) (r : List UInt8), n = a.size - i → ByteArray.toList.loop a i r = r.reverse ++ a.data.toList.drop i := by
    intro n
    induction n with
    | zero =>
      intro i r h
      unfold ByteArray.toList.loop
      rw [if_neg (by omega)]
      rw [List.drop_of_length_le (by rw [Array.length_toList]; show a.size ≤ i; omega)]
      simp
    | succ n ih =>
      intro i r h
      unfold ByteArray.toList.loop
      have hi : i < a.size := by omega
      rw [if_pos hi, ih (i + 1) _ (by omega)]
      have hd : a.data.toList.drop i = a.get! i :: a.data.toList.drop (i + 1) := by
        rw [List.drop_eq_getElem_cons (by rw [Array.length_toList]; exact hi)]
        congr 1
        simp only [ByteArray.get!]
        rw [Array.getElem_toList]
        exact (getElem!_pos a.data i hi).symm
      rw [hd]
      simp
  simpa using key _ 0 [] rfl

theorem eqIn_ptr_nil (d : Nat) (w : World) (t e : TypeId) (p : Option Addr) (h : P.underlying t = some (.pointer e)) : (Op.equalIn (d + 1) t (.pointer p) (.pointer none)).run P w = .ok p.isNone w := by
  cases p <;> simp [Op.equalIn, run_underlying h]
theorem run_ptr_nil (w : World) (t e : TypeId) (p : Option Addr) (h : P.underlying t = some (.pointer e)) :
    (binOp .eql t (.pointer p) (.pointer none)).run P w = .ok (.bool p.isNone) w ∧ (binOp .neq t (.pointer p) (.pointer none)).run P w = .ok (.bool p.isSome) w := by
  have := eqIn_ptr_nil 9999 w t e p h
  constructor
  · show ((Op.equal t (.pointer p) (.pointer none)) >>= fun b => pure (.bool b) : Sem Value).run P w = _
    rw [Sem.run_bind]; unfold Op.equal Op.maxDepth; rw [this]; rfl
  · show ((Op.equal t (.pointer p) (.pointer none)) >>= fun b => pure (.bool (!b)) : Sem Value).run P w = _
    rw [Sem.run_bind]; unfold Op.equal Op.maxDepth; rw [this]; cases p <;> rfl
theorem eqIn_slc_nil (d : Nat) (w : World) (t e : TypeId) (p : Option Addr) (n c : Nat) (h : P.underlying t = some (.slice e)) : (Op.equalIn (d + 1) t (.slice p n c) (.slice none 0 0)).run P w = .ok p.isNone w := by
  cases p <;> simp [Op.equalIn, run_underlying h]
theorem run_slc_nil (w : World) (t e : TypeId) (p : Option Addr) (n c : Nat) (h : P.underlying t = some (.slice e)) :
    (binOp .eql t (.slice p n c) (.slice none 0 0)).run P w = .ok (.bool p.isNone) w ∧ (binOp .neq t (.slice p n c) (.slice none 0 0)).run P w = .ok (.bool p.isSome) w := by
  have := eqIn_slc_nil 9999 w t e p n c h
  constructor
  · show ((Op.equal t (.slice p n c) (.slice none 0 0)) >>= fun b => pure (.bool b) : Sem Value).run P w = _
    rw [Sem.run_bind]; unfold Op.equal Op.maxDepth; rw [this]; rfl
  · show ((Op.equal t (.slice p n c) (.slice none 0 0)) >>= fun b => pure (.bool (!b)) : Sem Value).run P w = _
    rw [Sem.run_bind]; unfold Op.equal Op.maxDepth; rw [this]; cases p <;> rfl

/-- The machine's operator, with its guard. -/
def ABin (P : Program) (op : BinOp) (t : TypeId) (x y : Operand) (vx vy v : Value) : Prop :=
  abin P op t vx vy = some v ∨ (plB vx = true ∧ plB vy = true ∧ plB v = true ∧ ∀ w : World, ((do eqGuard op t x y vx vy; binOp op t vx vy) : Sem Value).run P w = .ok v w)

theorem abin_sound {op t x y vx vy vx' vy' v} (hx : VR ρ vx vx') (hy : VR ρ vy vy') (h : ABin P op t x y vx vy v) :
    ∃ v', ((do eqGuard op t x y vx' vy'; binOp op t vx' vy') : Sem Value).run P w = .ok v' w ∧ VR ρ v v' := by
  rcases h with h | ⟨p1, p2, p3, h⟩
  · unfold abin at h
    split at h
    · obtain rfl := hx.int
      obtain rfl := hy.int
      obtain ⟨e1, e2⟩ := aint_sound (P := P) (t := t) h w
      exact ⟨v, by simp [eqGuard_at_int, e1], .atom (plA.self ρ e2)⟩
    · obtain rfl := hx.bool
      obtain rfl := hy.bool
      split at h
      case h_2 => cases h
      rename_i td ht
      split at h
      · rename_i hk
        obtain rfl := Option.some.inj h
        exact ⟨_, by simp [eqGuard_at_bool, run_eql_bool w _ _ _ (td_bool ht hk)], .atom (.bool _)⟩
      · rename_i hk
        obtain rfl := Option.some.inj h
        exact ⟨_, by simp [eqGuard_at_bool, run_neq_bool w _ _ _ (td_bool ht hk)], .atom (.bool _)⟩
      · cases h
    · obtain rfl := hx.str
      obtain rfl := hy.str
      split at h
      · obtain rfl := Option.some.inj h
        refine ⟨_, ?_, .atom (.bool _)⟩
        simp only [eqGuard_at_string, pure_bind, binOp, Op.stringOp, Sem.run_pure, toList_bytes]
        congr 2
        rw [Bool.eq_iff_iff]; simp
      · obtain rfl := Option.some.inj h
        refine ⟨_, ?_, .atom (.bool _)⟩
        simp only [eqGuard_at_string, pure_bind, binOp, Op.stringOp, Sem.run_pure, toList_bytes]
        congr 2
        rw [Bool.eq_iff_iff]; simp
      · split at h
        · rename_i hs
          obtain rfl := Option.some.inj h
          refine ⟨_, ?_, .atom (.str _)⟩
          simp only [eqGuard_at_string, pure_bind, binOp]
          exact run_string_add_sum _ _ _ hs
        · cases h
      · cases h
    · obtain rfl := hy.nilp
      split at h
      case h_2 => cases h
      rename_i a _ td ht
      split at h
      · rename_i e hk
        obtain rfl := Option.some.inj h
        cases a with
        | none => obtain rfl := hx.nilp; exact ⟨_, by simp only [eqGuard_at_pointer, pure_bind]; exact (run_ptr_nil w t e none (td_ptr ht hk)).1, .atom (.bool _)⟩
        | some a => obtain ⟨l, _, _, rfl⟩ := hx.ptr; exact ⟨_, by simp only [eqGuard_at_pointer, pure_bind]; exact (run_ptr_nil w t e (some _) (td_ptr ht hk)).1, .atom (.bool _)⟩
      · rename_i e hk
        obtain rfl := Option.some.inj h
        cases a with
        | none => obtain rfl := hx.nilp; exact ⟨_, by simp only [eqGuard_at_pointer, pure_bind]; exact (run_ptr_nil w t e none (td_ptr ht hk)).2, .atom (.bool _)⟩
        | some a => obtain ⟨l, _, _, rfl⟩ := hx.ptr; exact ⟨_, by simp only [eqGuard_at_pointer, pure_bind]; exact (run_ptr_nil w t e (some _) (td_ptr ht hk)).2, .atom (.bool _)⟩
      · cases h
    · obtain ⟨-, -, rfl⟩ := hy.nils
      split at h
      case h_2 => cases h
      rename_i a n c m k _ td ht
      split at h
      · rename_i e hk
        obtain rfl := Option.some.inj h
        cases a with
        | none => obtain ⟨_, _, rfl⟩ := hx.nils; exact ⟨_, by simp only [eqGuard_at_slice, pure_bind]; exact (run_slc_nil w t e none 0 0 (td_slice ht hk)).1, .atom (.bool _)⟩
        | some a => obtain ⟨l, A, cap, _, _, _, _, _, rfl⟩ := hx.slice; exact ⟨_, by simp only [eqGuard_at_slice, pure_bind]; exact (run_slc_nil w t e (some _) _ _ (td_slice ht hk)).1, .atom (.bool _)⟩
      · rename_i e hk
        obtain rfl := Option.some.inj h
        cases a with
        | none => obtain ⟨_, _, rfl⟩ := hx.nils; exact ⟨_, by simp only [eqGuard_at_slice, pure_bind]; exact (run_slc_nil w t e none 0 0 (td_slice ht hk)).2, .atom (.bool _)⟩
        | some a => obtain ⟨l, A, cap, _, _, _, _, _, rfl⟩ := hx.slice; exact ⟨_, by simp only [eqGuard_at_slice, pure_bind]; exact (run_slc_nil w t e (some _) _ _ (td_slice ht hk)).2, .atom (.bool _)⟩
      · cases h
    · cases h
  · have pl : ∀ {z : Value}, plB z = true → plR z = true := fun {z} hz => by cases z <;> first | simpa [plR] using hz | simp [plB, pl1, plA] at hz
    obtain rfl := plR.eq hx (pl p1)
    obtain rfl := plR.eq hy (pl p2)
    exact ⟨v, h w, .v (plB.self ρ p3)⟩

def aun (op : UnOp) (x : Value) : Option Value :=
  match op, x with
  | .not, .bool b => some (.bool (!b))
  | .neg, .int k n => some (.int k (k.wrap (0 - n)))
  | .xor, .int k n => some (.int k (bits .xor k (if k.signed then -1 else k.max) n))
  | _, _ => none
theorem aun_sound {op x x' v} (hx : VR ρ x x') (h : aun op x = some v) : ∃ v', (Op.unary op x').run P w = .ok v' w ∧ VR ρ v v' := by
  unfold aun at h
  split at h
  · obtain rfl := Option.some.inj h; obtain rfl := hx.bool; exact ⟨_, rfl, .atom (.bool _)⟩
  · obtain rfl := Option.some.inj h; obtain rfl := hx.int; exact ⟨_, rfl, .atom (.int _ _)⟩
  · obtain rfl := Option.some.inj h; obtain rfl := hx.int; exact ⟨_, rfl, .atom (.int _ _)⟩
  · cases h

/-! ### lengths -/
def alen (P : Program) (t : TypeId) (s : AHeap) (x : Value) : Option Value :=
  match tdOf P t with
  | some td => match td.k, x with
    | .str, .string b => some (.int .i64 b.size)
    | .slice _, .slice _ n _ => some (.int .i64 n)
    | .array n _, _ => some (.int .i64 n)
    | .map .., .map none => some (.int .i64 0)
    | .map .., .map (some r) => match s r with
      | some (.map es) => some (.int .i64 es.length)
      | _ => none
    | _, _ => none
  | none => none
theorem len_sound (hS : Sim W0 ρ s w) {t ts ty x x' v} (ht : ts[0]? = some t) (hx : VR ρ x x') (h : alen P t s x = some v) :
    ∃ v', (Builtin.len_ ts ty #[x']).run P w = .ok v' w ∧ VR ρ v v' := by
  unfold alen at h
  split at h
  case h_2 => cases h
  rename_i td htd
  split at h
  · rename_i b hk; obtain rfl := Option.some.inj h; obtain rfl := hx.str
    exact ⟨_, by simp [Builtin.len_, ht, run_underlying (td_str htd hk), goInt], .atom (.int _ _)⟩
  · rename_i e a n c hk; obtain rfl := Option.some.inj h
    cases a with
    | none => obtain ⟨rfl, rfl, rfl⟩ := hx.nils; exact ⟨_, by simp [Builtin.len_, ht, run_underlying (td_slice htd hk), goInt], .atom (.int _ _)⟩
    | some a => obtain ⟨l, A, cap, _, _, _, _, _, rfl⟩ := hx.slice; exact ⟨_, by simp [Builtin.len_, ht, run_underlying (td_slice htd hk), goInt], .atom (.int _ _)⟩
  · rename_i n e hk; obtain rfl := Option.some.inj h
    exact ⟨_, by simp [Builtin.len_, ht, run_underlying (td_array htd hk), goInt], .atom (.int _ _)⟩
  · rename_i k e hk; obtain rfl := Option.some.inj h; obtain rfl := hx.nilm
    exact ⟨_, by simp [Builtin.len_, ht, run_underlying (td_map htd hk), goInt], .atom (.int _ _)⟩
  · rename_i k e r hk
    split at h
    case h_2 => cases h
    rename_i es hs
    obtain rfl := Option.some.inj h
    obtain ⟨l, hl, rfl⟩ := hx.map
    obtain ⟨l', hl', hr⟩ := hS.rep _ _ hs
    obtain rfl : l = l' := by rw [hl] at hl'; exact Option.some.inj hl'
    obtain ⟨_, ents, clk, he, h2⟩ := hr
    have hlen := h2.length
    refine ⟨_, ?_, .atom (.int _ _)⟩
    simp [Builtin.len_, ht, run_underlying (td_map htd hk), goInt, getObj, Sem.run, he, hlen]
  · cases h

/-! ### min, max -/
def amm (mx : Bool) : List Value → Option Value
  | [.int k a, .int _ b] => some (.int k (if mx then (if b > a then b else a) else (if b < a then b else a)))
  | [.int k a, .int _ b, .int _ c] => 
    let m := if mx then (if b > a then b else a) else (if b < a then b else a)
    some (.int k (if mx then (if c > m then c else m) else (if c < m then c else m)))
  | _ => none
theorem All2.ints {l l' : List Value} (h : All2 (VR ρ) l l') (hi : ∀ x ∈ l, ∃ k n, x = .int k n) : l' = l := by
  induction h with
  | nil => rfl
  | cons a r ih =>
    obtain ⟨k, n, rfl⟩ := hi _ (List.mem_cons_self ..)
    rw [a.int, ih fun x hx => hi x (by simp [hx])]
theorem amm_sound {mx l l' v ts ty} (h2 : All2 (VR ρ) l l') (h : amm mx l = some v) : (if mx then Builtin.max_ ts ty l'.toArray else Builtin.min_ ts ty l'.toArray).run P w = .ok v w ∧ plA v = true := by
  unfold amm at h
  split at h
  · obtain rfl := Option.some.inj h
    obtain rfl := h2.ints (by simp)
    cases mx <;> simp [Builtin.max_, Builtin.min_, Builtin.max2, Builtin.min2, plA]
  · obtain rfl := Option.some.inj h
    obtain rfl := h2.ints (by simp)
    cases mx <;> simp [Builtin.max_, Builtin.min_, Builtin.max2, Builtin.min2, plA]
  · cases h

/-! ### conversions -/
def u8s : List Value → Option (List Int)
  | [] => some []
  | .int .u8 n :: r => (u8s r).map (n :: ·)
  | _ :: _ => none
theorem u8s_map : ∀ {l : List Value} {ns}, u8s l = some ns → l = ns.map (Value.int .u8)
  | [], ns, h => by obtain rfl := Option.some.inj h; rfl
  | v :: r, ns, h => by
    unfold u8s at h
    split at h
    · rename_i heq; cases heq
    · rename_i n r' heq
      obtain ⟨rfl, rfl⟩ := List.cons.inj heq
      cases hr : u8s r with
      | none => rw [hr] at h; cases h
      | some m => rw [hr] at h; obtain rfl := Option.some.inj h; rw [u8s_map hr]; rfl
    · cases h
def strOf (ns : List Int) : ByteArray := ⟨(ns.map fun n => UInt8.ofNat n.toNat).toArray⟩
theorem foldl_push : ∀ (ns : List Int) (s : ByteArray), ns.foldl (fun r n => r.push (UInt8.ofNat n.toNat)) s = ⟨s.data ++ (ns.map fun n => UInt8.ofNat n.toNat).toArray⟩
  | [], s => by cases s; simp
  | n :: ns, s => by
    rw [List.foldl_cons, foldl_push ns]
    simp [ByteArray.push]

def aconv (P : Program) (src dst : TypeId) (s : AHeap) (x : Value) : Option Value :=
  match tdOf P src, tdOf P dst with
  | some ts, some td => match td.k, x with
    | .int k, .int _ n => match ts.k with
      | .int _ => some (.int k (k.wrap n))
      | _ => none
    | .str, .string b => match ts.k with
      | .str => some (.string b)
      | _ => none
    | .str, v => match ts.k with
      | .slice e => match tdOf P e with
        | some te => match te.k, srcCells s 1 v with
          | .int .u8, some (_, xs) => match v with
            | .slice _ _ _ => (u8s xs).map fun ns => .string (strOf ns)
            | _ => none
          | _, _ => none
        | none => none
      | _ => none
    | _, _ => none
  | _, _ => none

theorem conv_sound (hS : Sim W0 ρ s w) {src dst x x' v} (hx : VR ρ x x') (h : aconv P src dst s x = some v) : ∃ v', (convert src dst x').run P w = .ok v' w ∧ VR ρ v v' := by
  unfold aconv at h
  split at h
  case h_2 => cases h
  rename_i ts td hts htd
  split at h
  · rename_i k k' n hk
    split at h
    case h_2 => cases h
    rename_i k2 hk2
    obtain rfl := Option.some.inj h
    obtain rfl := hx.int
    exact ⟨_, by simp [convert, run_underlying (td_int hts hk2), run_underlying (td_int htd hk), Conv.intToInt], .atom (.int _ _)⟩
  · rename_i b hk
    split at h
    case h_2 => cases h
    rename_i hk2
    obtain rfl := Option.some.inj h
    obtain rfl := hx.str
    exact ⟨_, by simp [convert, run_underlying (td_str hts hk2), run_underlying (td_str htd hk)], .atom (.str _)⟩
  · rename_i hk hns
    split at h
    case h_2 => cases h
    rename_i e hk2
    split at h
    case h_2 => cases h
    rename_i te hte
    split at h
    case h_2 => cases h
    rename_i n xs hu hsrc
    split at h
    case h_2 => cases h
    rename_i a m c
    cases hns' : u8s xs with
    | none => rw [hns'] at h; cases h
    | some ns =>
    rw [hns'] at h
    obtain rfl := Option.some.inj h
    have hxs := u8s_map hns'
    obtain ⟨hl, ys, hys, h2⟩ := src_sound (P := P) hS hx hsrc
    have hys' : ys = ns.map (Value.int .u8) := by
      rw [← hxs]
      exact All2.eq_of (p := pl1) (fun _ _ => pl1.eq) h2 (by rw [hxs]; simp [pl1, plA])
    cases a with
    | none =>
      obtain ⟨_, _, rfl⟩ := hx.nils
      refine ⟨_, by rw [run_convert_bytes_string w src dst e _ _ _ (td_slice hts hk2) (td_int hte hu) (td_str htd hk)]; exact rfl, ?_⟩
      have : ns = [] := by
        simp [srcCells] at hsrc
        obtain ⟨_, rfl⟩ := hsrc
        simpa [u8s] using hns'.symm
      subst this
      exact .atom (.str _)
    | some a =>
      obtain ⟨l, A, cap, _, _, _, _, _, rfl⟩ := hx.slice
      refine ⟨.string (strOf ns), ?_, .atom (.str _)⟩
      rw [run_convert_bytes_string w src dst e _ _ _ (td_slice hts hk2) (td_int hte hu) (td_str htd hk)]
      have hn : n = m := by
        have : (Builtin.lenOf (.slice (some A) m cap)).run P w = .ok m w := rfl
        rw [this] at hl; cases hl; rfl
      subst hn
      simp only [Builtin.firstCells, Nat.mul_one] at hys
      rw [hys'] at hys
      rw [run_bytesToString w A n cap ns hys, foldl_push]
      simp [strOf]
  · cases h

/-! ### copy and clear -/
def acopy (P : Program) (t : TypeId) (s : AHeap) (d x : Value) : Option (Value × AHeap) :=
  match tdOf P t with
  | some td => match td.k with
    | .slice e => match tdOf P e with
      | some te => match srcCells s te.size x, d with
        | some (m, xs), .slice none _ _ => if xs.length = m * te.size then some (.int .i64 0, s) else none
        | some (m, xs), .slice (some a) n _ =>
          if min m n = 0 then some (.int .i64 0, s) else
          match s a.block with
          | some (.cells true sz cs) => if sz = te.size ∧ a.off + n * sz ≤ cs.length ∧ xs.length = m * te.size then
              some (.int .i64 ((min m n : Nat) : Int), s.set a.block (.cells true sz (splice cs a.off (xs.take (min m n * te.size))))) else none
          | _ => none
        | _, _ => none
      | none => none
    | _ => none
  | none => none
end
end Go.Proofs.Ytdbnpghckgmaoaa.Ab

/- More operations: clear, cap, append of zeros, maps. -/
namespace Go.Proofs.Ytdbnpghckgmaoaa.Ab
set_option linter.unusedVariables false
set_option linter.unusedSimpArgs false
set_option linter.unusedSectionVars false
open Go.RowKit

section
variable {P : Program} {W0 w : World} {ρ : Ren} {s : AHeap}

/-! ### clear -/
def aclear (P : Program) (t : TypeId) (s : AHeap) (x : Value) : Option AHeap :=
  match tdOf P t, x with
  | some td, .slice none _ _ => match td.k with
    | .slice _ => some s
    | _ => none
  | some td, .slice (some a) n _ => match td.k with
    | .slice e => if n = 0 then some s else match tdOf P e, s a.block with
      | some te, some (.cells true sz c) => if sz = te.size ∧ te.zero.cells.size = te.size ∧ a.off + n * sz ≤ c.length ∧ plB te.zero = true then
          some (s.set a.block (.cells true sz (splice c a.off (zrep n te.zero.cells.toList)))) else none
      | _, _ => none
    | _ => none
  | _, _ => none

theorem clear_sound (hS : Sim W0 ρ s w) {t ty x x' s'} (hx : VR ρ x x') (h : aclear P t s x = some s') :
    ∃ w', (Builtin.clear_ #[t] ty #[x']).run P w = .ok (.tuple #[]) w' ∧ Sim W0 ρ s' w' := by
  unfold aclear at h
  split at h
  · rename_i td n c ht
    split at h
    case h_2 => cases h
    rename_i e hk
    obtain rfl := Option.some.inj h
    obtain ⟨rfl, rfl, rfl⟩ := hx.nils
    exact ⟨w, by simp [Builtin.clear_, run_underlying (td_slice ht hk)], hS⟩
  · rename_i td a n c ht
    split at h
    case h_2 => cases h
    rename_i e hk
    obtain ⟨l, A, cap, hsp, hl, hle, hK, hA, rfl⟩ := hx.slice
    split at h
    · rename_i hn
      subst hn
      obtain rfl := Option.some.inj h
      exact ⟨w, by simp [Builtin.clear_, run_underlying (td_slice ht hk)], hS⟩
    · rename_i hn
      split at h
      case h_2 => cases h
      rename_i te sz cs hte hs
      split at h
      case isFalse => cases h
      rename_i hc
      obtain ⟨hsz, hz, hcl, hpl⟩ := hc
      obtain rfl := Option.some.inj h
      have hA' := hA.resolve_left (by omega)
      subst hA'
      have hzz : All2 (V1 ρ) te.zero.cells.toList te.zero.cells.toList := (plB.self ρ hpl).cells
      have h2 := all2_zrep hzz n
      obtain ⟨f1, f2, f3⟩ := Sim.storeMany hl _ _ cs a.off s w hS hs h2 (by rw [zrep_length, Array.length_toList, hz, ← hsz]; exact hcl)
      have hst := run_storeCells_cells (P := P) l.B (l.o + a.off) (zrep n te.zero.cells.toList) 0 w (by simpa using f1) (by simpa using f2) (All2.oneCell h2)
      rw [Nat.add_zero] at hst
      refine ⟨_, ?_, f3⟩
      have hzc : (Builtin.zeroCells te.zero.cells n).toList = zrep n te.zero.cells.toList := zeroCells_zrep _ _
      obtain ⟨m, rfl⟩ : ∃ m, n = m + 1 := ⟨n - 1, by omega⟩
      simp [Builtin.clear_, run_underlying (td_slice ht hk), td_zero hte, hzc]
      rw [show Sem.run P (storeCells { block := l.B, off := l.o + a.off } (zrep (m + 1) te.zero.cells.toList)) w = _ from by simpa using hst]; rfl
  · cases h

/-! ### cap -/
def acap (P : Program) (t : TypeId) (x : Value) : Option Value :=
  match tdOf P t, x with
  | some td, .slice none _ _ => match td.k with
    | .slice _ => some (.int .i64 0)
    | _ => none
  | some td, .slice (some a) _ c => match td.k with
    | .slice _ => if a.spot.isSome then some (.int .i64 c) else none
    | _ => none
  | _, _ => none
theorem cap_sound {t ty x x' v} (hx : VR ρ x x') (h : acap P t x = some v) : ∃ v', (Builtin.cap_ #[t] ty #[x']).run P w = .ok v' w ∧ VR ρ v v' := by
  unfold acap at h
  split at h
  · rename_i td n c ht
    split at h
    case h_2 => cases h
    rename_i e hk
    obtain rfl := Option.some.inj h
    obtain ⟨rfl, rfl, rfl⟩ := hx.nils
    exact ⟨_, by simp [Builtin.cap_, run_underlying (td_slice ht hk), goInt], .atom (.int _ _)⟩
  · rename_i td a n c ht
    split at h
    case h_2 => cases h
    rename_i e hk
    split at h
    case isFalse => cases h
    rename_i hsp
    obtain rfl := Option.some.inj h
    obtain ⟨l, A, cap, hsp', hl, hle, hK, hA, rfl⟩ := hx.slice
    have : cap = c := hsp'.2.resolve_left (fun e => by rw [e] at hsp; cases hsp)
    subst this
    exact ⟨_, by simp [Builtin.cap_, run_underlying (td_slice ht hk), goInt], .atom (.int _ _)⟩
  · cases h
end
end Go.Proofs.Ytdbnpghckgmaoaa.Ab

/- Maps: making, looking up, writing, over the abstract memory. -/
namespace Go.Proofs.Ytdbnpghckgmaoaa.Ab
set_option linter.unusedVariables false
set_option linter.unusedSimpArgs false
set_option linter.unusedSectionVars false
open Go.RowKit

/-- Where a key first lies, and its value. -/
def MFind (k : Value) : List (Value × Value) → Nat → Option (Nat × Value) → Prop
  | [], _, r => r = none
  | e :: es, i, r => (e.1 = k ∧ r = some (i, e.2)) ∨ (e.1 ≠ k ∧ MFind k es (i + 1) r)
def EFind (k : Value) : List MapEntry → Nat → Option (Nat × Value) → Prop
  | [], _, r => r = none
  | e :: es, i, r => (e.key = k ∧ r = some (i, e.val)) ∨ (e.key ≠ k ∧ EFind k es (i + 1) r)

/-- Keys that are told apart by their values. -/
structure KeyT (P : Program) (kt : TypeId) (d : Value → Prop) : Prop where
  pl : ∀ v, d v → plB v = true
  chk : ∀ v em (w : World), d v → (Instr.checkKey em 10000 kt v).run P w = .ok () w
  find : ∀ v l (w : World), d v → (∀ e ∈ l, d e.key) → ∃ r, EFind v l 0 r ∧ (Instr.findKey kt v l).run P w = .ok r w
  bits : ∀ v, d v → Instr.sameBits 10000 v v = true

theorem mfind_none {k : Value} : ∀ {es : List (Value × Value)} {i : Nat}, (∀ e ∈ es, e.1 ≠ k) → MFind k es i none
  | [], _, _ => rfl
  | e :: es, i, h => .inr ⟨h e List.mem_cons_self, mfind_none fun x hx => h x (List.mem_cons_of_mem _ hx)⟩
theorem mfind_some {k : Value} : ∀ {es : List (Value × Value)} {i j : Nat} {v : Value}, es[j]? = some (k, v) → (∀ q e, q < j → es[q]? = some e → e.1 ≠ k) → MFind k es i (some (i + j, v))
  | [], _, _, _, h, _ => by simp at h
  | e :: es, i, 0, v, h, _ => .inl ⟨by simp at h; rw [h], by simp at h; rw [h]; rfl⟩
  | e :: es, i, j + 1, v, h, hq => .inr ⟨hq 0 e (by omega) rfl, by
      have := mfind_some (i := i + 1) (j := j) (es := es) (by simpa using h) (fun q x hqj hx => hq (q + 1) x (by omega) (by simpa using hx))
      rwa [show i + 1 + j = i + (j + 1) from by omega] at this⟩

section
variable {P : Program} {W0 w : World} {ρ : Ren} {s : AHeap}

/-- The two findings are one. -/
theorem find_rel {d : Value → Prop} (hd : ∀ v, d v → plB v = true) {k : Value} : ∀ {es : List (Value × Value)} {l : List MapEntry} {i : Nat} {r r'}, All2 (fun (e : Value × Value) (m : MapEntry) => VB ρ e.1 m.key ∧ VB ρ e.2 m.val) es l → (∀ e ∈ es, d e.1) →
    MFind k es i r → EFind k l i r' → (r = none ∧ r' = none) ∨ ∃ j v v', r = some (j, v) ∧ r' = some (j, v') ∧ VB ρ v v' ∧ i ≤ j ∧ (es[j - i]?).map (·.1) = some k ∧ (l[j - i]?).map (·.key) = some k := by
  intro es
  induction es with
  | nil => intro l i r r' h _ h1 h2; cases h; exact .inl ⟨h1, h2⟩
  | cons e es ih =>
    intro l i r r' h hk h1 h2
    cases h with
    | cons ha hr =>
      rename_i m l
      have hm : m.key = e.1 := plB.eq ha.1 (hd _ (hk _ List.mem_cons_self))
      rcases h1 with ⟨a, rfl⟩ | ⟨a, h1⟩
      · rcases h2 with ⟨b, rfl⟩ | ⟨b, _⟩
        · exact .inr ⟨i, e.2, m.val, rfl, rfl, ha.2, Nat.le_refl _, by simp [a], by simp [b]⟩
        · exact absurd (hm.trans a) b
      · rcases h2 with ⟨b, _⟩ | ⟨_, h2⟩
        · exact absurd (hm.symm.trans b) a
        · rcases ih hr (fun x hx => hk x (List.mem_cons_of_mem _ hx)) h1 h2 with h | ⟨j, v, v', e1, e2, e3, e4, e5, e6⟩
          · exact .inl h
          · refine .inr ⟨j, v, v', e1, e2, e3, by omega, ?_, ?_⟩
            · rw [show j - i = (j - (i + 1)) + 1 from by omega, List.getElem?_cons_succ]; exact e5
            · rw [show j - i = (j - (i + 1)) + 1 from by omega, List.getElem?_cons_succ]; exact e6

theorem Below.setObj {B : Nat} {a w : World} (h : Below B a w) {r : Nat} (hr : B ≤ r) (o : Obj) : Below B a { w with heap := w.heap.setIfInBounds r o } :=
  ⟨h.os, h.tape, h.output, by simpa using h.size, fun k hk => by
    show (w.heap.setIfInBounds r o)[k]? = _
    rw [Array.getElem?_setIfInBounds_ne (by omega)]; exact h.block k hk⟩

/-- A map written anew. -/
theorem Sim.setMap (h : Sim W0 ρ s w) {id es es' l ents clk clk'} {ents' : Array MapEntry} (hs : s id = some (.map es)) (hl : ρ id = some l) (hb : w.heap[l.B]? = some (.map ents clk)) (h0 : W0.heap.size ≤ l.B)
    (h2 : All2 (fun (e : Value × Value) (m : MapEntry) => VB ρ e.1 m.key ∧ VB ρ e.2 m.val) es' ents'.toList) :
    Sim W0 ρ (s.set id (.map es')) { w with heap := w.heap.setIfInBounds l.B (.map ents' clk') } := by
  have hlt : l.B < w.heap.size := (Array.getElem?_eq_some_iff.1 hb).1
  refine ⟨Below.setObj h.below h0 _, ?_, ?_, ?_, fin_set h.fin _ _⟩
  · intro id' b hb'
    by_cases hid : id' = id
    · subst hid
      rw [AHeap.set_same] at hb'
      obtain rfl := Option.some.inj hb'
      exact ⟨l, hl, h0, ents', clk', by show (w.heap.setIfInBounds l.B _)[l.B]? = _; simp [hlt], h2⟩
    · rw [AHeap.set_other _ _ hid] at hb'
      obtain ⟨l', hl', hr'⟩ := h.rep id' b hb'
      refine ⟨l', hl', ?_⟩
      cases hlive : b.live with
      | false => exact hr'.of_idle hlive
      | true =>
        have hne := h.apart id id' _ b l l' (Ne.symm hid) hs hb' rfl hlive hl hl'
        exact hr'.same (by show (w.heap.setIfInBounds l.B _)[l'.B]? = _; rw [Array.getElem?_setIfInBounds_ne hne]) (by show _ ≤ (w.heap.setIfInBounds l.B _).size; simp)
  · intro id' l' hl'
    by_cases hid : id' = id
    · subst hid; rw [AHeap.set_same]; rfl
    · rw [AHeap.set_other _ _ hid]; exact h.dom id' l' hl'
  · intro a b x y p q hne hx hy ho hlv hp hq
    by_cases ha : a = id
    · subst ha
      rw [AHeap.set_other _ _ (Ne.symm hne)] at hy
      exact h.apart a b _ y p q hne hs hy rfl hlv hp hq
    · rw [AHeap.set_other _ _ ha] at hx
      by_cases hbb : b = id
      · subst hbb; exact h.apart a b x _ p q hne hx hs ho rfl hp hq
      · rw [AHeap.set_other _ _ hbb] at hy; exact h.apart a b x y p q hne hx hy ho hlv hp hq

theorem makeMap_sound (hS : Sim W0 ρ s w) {t id} (hid : s id = none) :
    ∃ v' w' ρ', (Instr.makeMap t none).run P w = .ok v' w' ∧ RLe ρ ρ' ∧ VR ρ' (.map (some id)) v' ∧ Sim W0 ρ' (s.set id (.map [])) w' := by
  have hl : Loc := ⟨w.heap.size, 0, 0, 0⟩
  obtain ⟨hle, hS'⟩ := (hS.grow (.map #[] 0)).name (id := id) (l := ⟨w.heap.size, 0, 0, 0⟩) (b := .map []) hid
    (fun ρ' _ => ⟨hS.below.size, #[], 0, (Go.MapKept.heap_alloc w _).1, .nil⟩)
    (fun id' b' l' hb hlv hl => Nat.ne_of_gt (hS.lt hb hl hlv))
  exact ⟨_, _, _, rfl, hle, .atom (.map (setR_same _ _ _)), hS'⟩

def mres (z : Value) : Option (Nat × Value) → Value
  | some p => p.2
  | none => z
def ALook (P : Program) (t : TypeId) (s : AHeap) (x k : Value) (ok : Bool) (v : Value) : Prop :=
  ∃ td te kt et d es r, tdOf P t = some td ∧ td.k = .map kt et ∧ tdOf P et = some te ∧ plB te.zero = true ∧ KeyT P kt d ∧ d k ∧
    ((x = .map none ∧ es = []) ∨ ∃ id, x = .map (some id) ∧ s id = some (.map es)) ∧ (∀ e ∈ es, d e.1) ∧ MFind k es 0 r ∧
    v = (if ok = true then .tuple #[(mres te.zero r), .bool r.isSome] else mres te.zero r)

theorem VR.toBpl {x y : Value} (h : VR ρ x y) (hp : plB x = true) : y = x :=
  plR.eq h (by cases x <;> first | simpa [plR] using hp | simp [plB, pl1, plA] at hp)

theorem lookup_sound (hS : Sim W0 ρ s w) {t x x' k k' ok v} (hx : VR ρ x x') (hk : VR ρ k k') (h : ALook P t s x k ok v) :
    ∃ v', (Instr.lookup t x' k' ok).run P w = .ok v' w ∧ VR ρ v v' := by
  obtain ⟨td, te, kt, et, d, es, r, ht, hkd, hte, hpz, K, hdk, hm, hes, hf, rfl⟩ := h
  obtain rfl := hk.toBpl (K.pl k hdk)
  have hu := td_map ht hkd
  have core : ∀ (ents : Array MapEntry), All2 (fun (e : Value × Value) (m : MapEntry) => VB ρ e.1 m.key ∧ VB ρ e.2 m.val) es ents.toList →
      ∃ v', ((do
        Instr.checkKey ents.isEmpty 10000 kt k'
        let (v, okk) ← match ← Instr.findKey kt k' ents.toList with
          | some (_, v) => pure (v, true)
          | none => pure (← zeroValue et, false)
        pure (if ok then .tuple #[v, .bool okk] else v)) : Sem Value).run P w = .ok v' w ∧ VR ρ (if ok = true then .tuple #[(mres te.zero r), .bool r.isSome] else mres te.zero r) v' := by
    intro ents h2
    have hkeys : ∀ e ∈ ents.toList, d e.key := by
      intro e he
      obtain ⟨i, hi⟩ := List.mem_iff_getElem?.1 he
      have hlen := h2.length
      have hi' : i < es.length := by rw [hlen]; exact (List.getElem?_eq_some_iff.1 hi).1
      obtain ⟨b, hb1, hb2⟩ := h2.get (List.getElem?_eq_getElem hi')
      rw [hi] at hb1
      obtain rfl := Option.some.inj hb1
      have := hes _ (List.getElem_mem hi')
      rw [plB.eq hb2.1 (K.pl _ this)]; exact this
    obtain ⟨r', hr', hrun⟩ := K.find k' ents.toList w hdk hkeys
    rw [Sem.run_bind, K.chk k' _ w hdk, Result.andThen_ok, Sem.run_bind, hrun, Result.andThen_ok]
    rcases find_rel (ρ := ρ) K.pl h2 hes hf hr' with ⟨rfl, rfl⟩ | ⟨j, v, v', rfl, rfl, hv, _⟩
    · refine ⟨if ok = true then .tuple #[te.zero, .bool false] else te.zero, ?_, ?_⟩
      · simp only [Sem.run_bind, td_zero hte, Result.andThen_ok, Sem.run_pure]
      · cases ok
        · exact .v (plB.self ρ hpz)
        · exact .tup (.cons (plB.self ρ hpz) (.cons (.v (.a (.bool _))) .nil))
    · refine ⟨if ok = true then .tuple #[v', .bool true] else v', ?_, ?_⟩
      · simp only [Sem.run_bind, Result.andThen_ok, Sem.run_pure]
      · cases ok
        · exact .v hv
        · exact .tup (.cons hv (.cons (.v (.a (.bool _))) .nil))
  unfold Instr.lookup
  rw [Sem.run_bind, run_underlying hu, Result.andThen_ok]
  rcases hm with ⟨rfl, rfl⟩ | ⟨id, rfl, hid⟩
  · obtain rfl := hx.nilm
    obtain ⟨v', e1, e2⟩ := core #[] .nil
    refine ⟨v', ?_, e2⟩
    simp only [Sem.run_bind, Result.andThen_ok, Sem.run_pure] at e1 ⊢
    exact e1
  · obtain ⟨l, hl, rfl⟩ := hx.map
    obtain ⟨l', hl', h0, ents, clk, hb, h2⟩ := hS.rep id _ hid
    obtain rfl : l = l' := by rw [hl] at hl'; exact Option.some.inj hl'
    obtain ⟨v', e1, e2⟩ := core ents h2
    refine ⟨v', ?_, e2⟩
    simp only [Sem.run_bind, Go.MapKept.run_getObj_map hb, Result.andThen_ok, Sem.run_pure] at e1 ⊢
    exact e1

def AUpd (P : Program) (t : TypeId) (s : AHeap) (m k x : Value) (s' : AHeap) : Prop :=
  ∃ td kt et d id es r, tdOf P t = some td ∧ td.k = .map kt et ∧ KeyT P kt d ∧ d k ∧ m = .map (some id) ∧ s id = some (.map es) ∧ (∀ e ∈ es, d e.1) ∧ MFind k es 0 r ∧ notTup x = true ∧
    s' = s.set id (.map (match r with | some p => es.set p.1 (k, x) | none => es ++ [(k, x)]))

theorem update_sound (hS : Sim W0 ρ s w) {t m m' k k' x x' s'} (hm : VR ρ m m') (hk : VR ρ k k') (hx : VR ρ x x') (h : AUpd P t s m k x s') :
    ∃ w', (Instr.mapUpdate t m' k' x').run P w = .ok () w' ∧ Sim W0 ρ s' w' := by
  obtain ⟨td, kt, et, d, id, es, r, ht, hkd, K, hdk, rfl, hid, hes, hf, hnt, rfl⟩ := h
  obtain rfl := hk.toBpl (K.pl k hdk)
  have hu := td_map ht hkd
  have hxb := hx.toB fun cs e => by rw [e] at hnt; cases hnt
  obtain ⟨l, hl, rfl⟩ := hm.map
  obtain ⟨l', hl', h0, ents, clk, hb, h2⟩ := hS.rep id _ hid
  obtain rfl : l = l' := by rw [hl] at hl'; exact Option.some.inj hl'
  have hkeys : ∀ e ∈ ents.toList, d e.key := by
    intro e he
    obtain ⟨i, hi⟩ := List.mem_iff_getElem?.1 he
    have hlen := h2.length
    have hi' : i < es.length := by rw [hlen]; exact (List.getElem?_eq_some_iff.1 hi).1
    obtain ⟨b, hb1, hb2⟩ := h2.get (List.getElem?_eq_getElem hi')
    rw [hi] at hb1
    obtain rfl := Option.some.inj hb1
    have := hes _ (List.getElem_mem hi')
    rw [plB.eq hb2.1 (K.pl _ this)]; exact this
  obtain ⟨r', hr', hrun⟩ := K.find k' ents.toList w hdk hkeys
  have hkk : VB ρ k' k' := plB.self ρ (K.pl _ hdk)
  unfold Instr.mapUpdate
  rw [Sem.run_bind, run_underlying hu, Result.andThen_ok]
  simp only [Sem.run_bind, Go.MapKept.run_getObj_map hb, Result.andThen_ok, K.chk k' _ w hdk, hrun]
  rcases find_rel (ρ := ρ) K.pl h2 hes hf hr' with ⟨rfl, rfl⟩ | ⟨j, v, v', rfl, rfl, hv, _, _, hkj⟩
  · refine ⟨_, Go.MapKept.run_setObj_map _ hb, hS.setMap hid hl hb h0 ?_⟩
    simpa using h2.append (.cons ⟨hkk, hxb⟩ .nil)
  · have hkj' : ((ents[j]?).map (·.key)).getD k' = k' := by
      rw [Nat.sub_zero, Array.getElem?_toList] at hkj
      rw [hkj]; rfl
    have hst : (Instr.keyThatStays (((ents[j]?).map (·.key)).getD k') k').run P w = .ok k' w := by
      rw [hkj']; unfold Instr.keyThatStays; rw [if_pos (K.bits _ hdk)]; rfl
    simp only [Sem.run_bind, hst, Result.andThen_ok]
    refine ⟨_, Go.MapKept.run_setObj_map _ hb, hS.setMap hid hl hb h0 ?_⟩
    have hset := h2.set j (a := (k', x)) (b := ⟨k', x', ((ents[j]?).map (·.born)).getD 0⟩) ⟨hkk, hxb⟩
    have : (ents.modify j fun e => { e with key := k', val := x' }).toList = ents.toList.set j ⟨k', x', ((ents[j]?).map (·.born)).getD 0⟩ := by
      apply List.ext_getElem?
      intro q
      rw [Array.getElem?_toList, Array.getElem?_modify, List.getElem?_set]
      by_cases hq : j = q
      · subst hq
        simp only [if_true]
        by_cases hlt : j < ents.size
        · simp [hlt]
        · simp [hlt]
      · simp [hq]
    rw [this]; exact hset
end

/-! ### kinds of keys -/
theorem keyT_int {P : Program} {kt : TypeId} {k : IntKind} (h : P.underlying kt = some (.int k)) : KeyT P kt (fun v => ∃ n, v = .int k n) where
  pl v hv := by obtain ⟨n, rfl⟩ := hv; rfl
  chk v em w hv := by obtain ⟨n, rfl⟩ := hv; exact Go.MapKept.run_checkKey h (by simp [Go.MapKept.IsKey]) em 9999
  bits v hv := by obtain ⟨n, rfl⟩ := hv; simp [Instr.sameBits]
  find v l w hv hl := by
    obtain ⟨n, rfl⟩ := hv
    have key : ∀ (l : List MapEntry) (i : Nat), (∀ e ∈ l, ∃ n, e.key = .int k n) → ∃ r, EFind (.int k n) l i r ∧ Instr.findNow (.int k) (.int k n) l i = some r := by
      intro l
      induction l with
      | nil => intro i _; exact ⟨none, rfl, rfl⟩
      | cons e l ih =>
        intro i hl
        obtain ⟨m, hm⟩ := hl e List.mem_cons_self
        by_cases hnm : n = m
        · exact ⟨some (i, e.val), .inl ⟨by rw [hm, hnm], rfl⟩, by simp [Instr.findNow, hm, Instr.sameNow, hnm]⟩
        · obtain ⟨r, h1, h2⟩ := ih (i + 1) fun x hx => hl x (List.mem_cons_of_mem _ hx)
          refine ⟨r, .inr ⟨fun e' => hnm ?_, h1⟩, by simp [Instr.findNow, hm, Instr.sameNow, beq_eq_false_iff_ne.2 hnm, h2]⟩
          rw [hm] at e'; injection e' with _ e'; exact e'.symm
    obtain ⟨r, h1, h2⟩ := key l 0 hl
    exact ⟨r, h1, Go.MapKept.run_findKey h h2⟩

theorem keyT_struct {P : Program} {kt : TypeId} {fs : Array Field} {d : Value → Prop} (h : P.underlying kt = some (.struct fs)) (hpl : ∀ v, d v → plB v = true) (hag : ∀ v, d v → ∃ cs, v = .agg cs)
    (hchk : ∀ v em (w : World), d v → (Instr.checkKey em 10000 kt v).run P w = .ok () w) (hbits : ∀ v, d v → Instr.sameBits 10000 v v = true)
    (heq : ∀ a b (w : World), d a → d b → ∃ r : Bool, (Op.equal kt a b).run P w = .ok r w ∧ (r = true ↔ a = b)) : KeyT P kt d where
  pl := hpl
  chk := hchk
  bits := hbits
  find v l w hv hl := by
    have key : ∀ (l : List MapEntry) (i : Nat), (∀ e ∈ l, d e.key) → ∃ r, EFind v l i r ∧ (Instr.findAsking kt v l i).run P w = .ok r w := by
      intro l
      induction l with
      | nil => intro i _; exact ⟨none, rfl, rfl⟩
      | cons e l ih =>
        intro i hl
        obtain ⟨b, hb, hb'⟩ := heq v e.key w hv (hl e List.mem_cons_self)
        cases b with
        | true => exact ⟨some (i, e.val), .inl ⟨(hb'.1 rfl).symm, rfl⟩, by simp [Instr.findAsking, hb]⟩
        | false =>
          obtain ⟨r, h1, h2⟩ := ih (i + 1) fun x hx => hl x (List.mem_cons_of_mem _ hx)
          exact ⟨r, .inr ⟨fun e' => Bool.noConfusion (hb'.2 e'.symm), h1⟩, by simp [Instr.findAsking, hb, h2]⟩
    unfold Instr.findKey
    rw [Sem.run_bind, run_underlying h, Result.andThen_ok]
    cases l with
    | nil => exact ⟨none, rfl, rfl⟩
    | cons e l =>
      obtain ⟨cs, rfl⟩ := hag v hv
      obtain ⟨cs', hcs⟩ := hag _ (hl e List.mem_cons_self)
      obtain ⟨r, h1, h2⟩ := key (e :: l) 0 hl
      refine ⟨r, h1, ?_⟩
      simp only [Instr.findNow, hcs, Instr.sameNow]
      exact h2
end Go.Proofs.Ytdbnpghckgmaoaa.Ab
