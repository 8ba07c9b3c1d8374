/- texts of this claim, one behind the other: Ab1. -/
import Derived.Orders
import Derived.Below
import Derived.Laws.Append
import Derived.Laws.Entries
import Derived.Laws.NewBlocks

/- The abstract memory: named blocks, values over them, and how a world of the machine stands to them. -/
namespace Go.Proofs.Ytoiplbackllgfaa.Ab
set_option linter.unusedVariables false
set_option linter.unusedSimpArgs false
set_option linter.unusedSectionVars false
open Go.RowKit

structure Loc where
  B : Nat
  o : Nat
  K : Nat
  sz : Nat

abbrev Ren := Nat → Option Loc
def RLe (ρ ρ' : Ren) : Prop := ∀ id l, ρ id = some l → ρ' id = some l
theorem RLe.refl (ρ : Ren) : RLe ρ ρ := fun _ _ h => h
theorem RLe.trans {a b c : Ren} (h : RLe a b) (h' : RLe b c) : RLe a c := fun id l e => h' id l (h id l e)

inductive All2 {α β : Type} (R : α → β → Prop) : List α → List β → Prop
  | nil : All2 R [] []
  | cons {a b l l'} : R a b → All2 R l l' → All2 R (a :: l) (b :: l')

namespace All2
variable {α β : Type} {R S : α → β → Prop}
theorem mono (h : ∀ a b, R a b → S a b) : ∀ {l l'}, All2 R l l' → All2 S l l'
  | _, _, .nil => .nil
  | _, _, .cons x r => .cons (h _ _ x) (mono h r)
theorem length : ∀ {l : List α} {l' : List β}, All2 R l l' → l.length = l'.length
  | _, _, .nil => rfl
  | _, _, .cons _ r => by simp [r.length]
theorem get : ∀ {l : List α} {l' : List β}, All2 R l l' → ∀ {i : Nat} {a : α}, l[i]? = some a → ∃ b, l'[i]? = some b ∧ R a b
  | _, _, .nil, i, a, h => by simp at h
  | _, _, .cons x r, 0, a, h => by simp at h; subst h; exact ⟨_, by simp, x⟩
  | _, _, .cons x r, i + 1, a, h => by simp at h; simpa using r.get h
theorem of_get : ∀ {l : List α} {l' : List β}, l.length = l'.length → (∀ (i : Nat) a b, l[i]? = some a → l'[i]? = some b → R a b) → All2 R l l'
  | [], [], _, _ => .nil
  | a :: l, b :: l', h, g => .cons (g 0 a b (by simp) (by simp)) (of_get (by simpa using h) fun i x y hx hy => g (i + 1) x y (by simpa using hx) (by simpa using hy))
theorem append : ∀ {l m : List α} {l' m' : List β}, All2 R l l' → All2 R m m' → All2 R (l ++ m) (l' ++ m')
  | _, _, _, _, .nil, h => h
  | _, _, _, _, .cons x r, h => .cons x (r.append h)
theorem set : ∀ {l : List α} {l' : List β}, All2 R l l' → ∀ (i : Nat) {a b}, R a b → All2 R (l.set i a) (l'.set i b)
  | _, _, .nil, _, _, _, _ => .nil
  | _, _, .cons x r, 0, _, _, h => .cons h r
  | _, _, .cons x r, i + 1, _, _, h => .cons x (r.set i h)
theorem drop : ∀ {l : List α} {l' : List β}, All2 R l l' → ∀ (i : Nat), All2 R (l.drop i) (l'.drop i)
  | _, _, h, 0 => h
  | _, _, .nil, _ + 1 => .nil
  | _, _, .cons _ r, i + 1 => by simpa using r.drop i
theorem take : ∀ {l : List α} {l' : List β}, All2 R l l' → ∀ (i : Nat), All2 R (l.take i) (l'.take i)
  | _, _, _, 0 => .nil
  | _, _, .nil, _ + 1 => .nil
  | _, _, .cons x r, i + 1 => .cons x (r.take i)
theorem replicate (n : Nat) {a : α} {b : β} (h : R a b) : All2 R (List.replicate n a) (List.replicate n b) := by
  induction n with
  | zero => exact .nil
  | succ n ih => exact .cons h ih
theorem map_left {γ : Type} {f : γ → α} : ∀ {l : List γ} {l' : List β}, All2 (fun x y => R (f x) y) l l' → All2 R (l.map f) l'
  | _, _, .nil => .nil
  | _, _, .cons x r => .cons x (map_left r)
end All2

/-- One cell's value that is no function. -/
inductive VA (ρ : Ren) : Value → Value → Prop
  | bool (b) : VA ρ (.bool b) (.bool b)
  | int (k n) : VA ρ (.int k n) (.int k n)
  | str (s) : VA ρ (.string s) (.string s)
  | nilp : VA ρ (.pointer none) (.pointer none)
  | ptr {id off l} (h : ρ id = some l) : VA ρ (.pointer (some ⟨id, off, none⟩)) (.pointer (some ⟨l.B, l.o + off, none⟩))
  | nils : VA ρ (.slice none 0 0) (.slice none 0 0)
  | sl {id off sp len c l A cap} (h : ρ id = some l) (hl : len ≤ cap) (hk : off + cap * l.sz ≤ l.K) (ha : cap = 0 ∨ A = ⟨l.B, l.o + off, none⟩) (hc : c ≤ cap) (hx : sp = none ∨ cap = c) :
      VA ρ (.slice (some ⟨id, off, sp⟩) len c) (.slice (some A) len cap)
  | nilf : VA ρ .nilFunc .nilFunc
  | nili : VA ρ .nilIface .nilIface
  | nilm : VA ρ (.map none) (.map none)
  | map {id l} (h : ρ id = some l) : VA ρ (.map (some id)) (.map (some l.B))

/-- One cell's value. -/
inductive V1 (ρ : Ren) : Value → Value → Prop
  | a {x y} (h : VA ρ x y) : V1 ρ x y
  | fn {f fs fs' cs cs'} (h1 : All2 (VA ρ) fs.toList fs'.toList) (h2 : All2 (VA ρ) cs.toList cs'.toList) : V1 ρ (.func f fs cs) (.func f fs' cs')

/-- A variable's value. -/
inductive VB (ρ : Ren) : Value → Value → Prop
  | v {x y} (h : V1 ρ x y) : VB ρ x y
  | agg {cs cs'} (h : All2 (V1 ρ) cs.toList cs'.toList) : VB ρ (.agg cs) (.agg cs')

inductive VR (ρ : Ren) : Value → Value → Prop
  | v {x y} (h : VB ρ x y) : VR ρ x y
  | tup {cs cs'} (h : All2 (VB ρ) cs.toList cs'.toList) : VR ρ (.tuple cs) (.tuple cs')

section mono
variable {ρ ρ' : Ren} (hle : RLe ρ ρ') {x y : Value}
include hle
theorem VA.mono (h : VA ρ x y) : VA ρ' x y := by
  cases h with
  | bool b => exact .bool b
  | int k n => exact .int k n
  | str s => exact .str s
  | nilp => exact .nilp
  | ptr h => exact .ptr (hle _ _ h)
  | nils => exact .nils
  | sl h a b c d e => exact .sl (hle _ _ h) a b c d e
  | nilf => exact .nilf
  | nili => exact .nili
  | nilm => exact .nilm
  | map h => exact .map (hle _ _ h)
theorem V1.mono (h : V1 ρ x y) : V1 ρ' x y := by
  cases h with
  | a h => exact .a (h.mono hle)
  | fn h1 h2 => exact .fn (h1.mono fun _ _ h => h.mono hle) (h2.mono fun _ _ h => h.mono hle)
theorem VB.mono (h : VB ρ x y) : VB ρ' x y := by
  cases h with
  | v h => exact .v (h.mono hle)
  | agg h => exact .agg (h.mono fun _ _ h => h.mono hle)
theorem VR.mono (h : VR ρ x y) : VR ρ' x y := by
  cases h with
  | v h => exact .v (h.mono hle)
  | tup h => exact .tup (h.mono fun _ _ h => h.mono hle)
end mono

theorem V1.oneCell {ρ : Ren} {x y : Value} (h : V1 ρ x y) : y.oneCell' = true := by
  cases h with
  | a h => cases h <;> rfl
  | fn => rfl
theorem V1.cells {ρ : Ren} {x y : Value} (h : V1 ρ x y) : x.cells = #[x] ∧ y.cells = #[y] := by
  cases h with
  | a h => cases h <;> exact ⟨rfl, rfl⟩
  | fn => exact ⟨rfl, rfl⟩
theorem VB.cells {ρ : Ren} {x y : Value} (h : VB ρ x y) : All2 (V1 ρ) x.cells.toList y.cells.toList := by
  cases h with
  | v h => rw [h.cells.1, h.cells.2]; exact .cons h .nil
  | agg h => exact h

/-! ### names in a value -/
def nmA (D : Nat → Prop) : Value → Prop
  | .pointer (some a) => D a.block
  | .slice (some a) _ _ => D a.block
  | .map (some r) => D r
  | _ => True
def nm1 (D : Nat → Prop) : Value → Prop
  | .func _ fs cs => (∀ x ∈ fs.toList, nmA D x) ∧ (∀ x ∈ cs.toList, nmA D x)
  | v => nmA D v
def nmB (D : Nat → Prop) : Value → Prop
  | .agg cs => ∀ x ∈ cs.toList, nm1 D x
  | v => nm1 D v
def nmR (D : Nat → Prop) : Value → Prop
  | .tuple cs => ∀ x ∈ cs.toList, nmB D x
  | v => nmB D v

theorem All2.nm {ρ : Ren} {R : Value → Value → Prop} {p : Value → Prop} (h : ∀ x y, R x y → p x) : ∀ {l l' : List Value}, All2 R l l' → ∀ x ∈ l, p x
  | _, _, .cons a r, x, hx => by
    rcases List.mem_cons.1 hx with rfl | hx
    · exact h _ _ a
    · exact All2.nm (ρ := ρ) h r x hx

section dom
variable {ρ : Ren} {x y : Value}
theorem VA.nm (h : VA ρ x y) : nmA (fun i => (ρ i).isSome) x := by cases h <;> simp_all [nmA]
theorem V1.nm (h : V1 ρ x y) : nm1 (fun i => (ρ i).isSome) x := by
  cases h with
  | a h => have := h.nm; cases h <;> simpa [nm1] using this
  | fn h1 h2 => exact ⟨All2.nm (ρ := ρ) (fun _ _ h => VA.nm h) h1, All2.nm (ρ := ρ) (fun _ _ h => VA.nm h) h2⟩
end dom

theorem nmA.imp {D E : Nat → Prop} (h : ∀ i, D i → E i) {x : Value} (hx : nmA D x) : nmA E x := by
  unfold nmA at *; split at hx <;> first | exact h _ hx | trivial
theorem nm1.imp {D E : Nat → Prop} (h : ∀ i, D i → E i) {x : Value} (hx : nm1 D x) : nm1 E x := by
  cases x <;> simp only [nm1] at * <;> first | exact nmA.imp h hx | exact ⟨fun x m => (hx.1 x m).imp h, fun x m => (hx.2 x m).imp h⟩

/-- A renaming held to some names. -/
noncomputable def cutR (ρ : Ren) (D : Nat → Prop) : Ren := fun i => open Classical in if D i then ρ i else none
theorem cutR_le (ρ : Ren) (D) : RLe (cutR ρ D) ρ := by
  intro i l h; unfold cutR at h; split at h
  · exact h
  · cases h
theorem cutR_in {ρ : Ren} {D : Nat → Prop} {i l} (h : ρ i = some l) (hd : D i) : cutR ρ D i = some l := by unfold cutR; rw [if_pos hd]; exact h

section cut
variable {ρ : Ren} {D : Nat → Prop} {x y : Value}
theorem VA.cut (h : VA ρ x y) (hx : nmA D x) : VA (cutR ρ D) x y := by
  cases h with
  | bool b => exact .bool b
  | int k n => exact .int k n
  | str s => exact .str s
  | nilp => exact .nilp
  | ptr h => exact .ptr (cutR_in h hx)
  | nils => exact .nils
  | sl h a b c d e => exact .sl (cutR_in h hx) a b c d e
  | nilf => exact .nilf
  | nili => exact .nili
  | nilm => exact .nilm
  | map h => exact .map (cutR_in h hx)
theorem All2.cutG {R S : Value → Value → Prop} {p : Value → Prop} (h : ∀ x y, R x y → p x → S x y) : ∀ {l l' : List Value}, All2 R l l' → (∀ x ∈ l, p x) → All2 S l l'
  | _, _, .nil, _ => .nil
  | _, _, .cons a r, hp => .cons (h _ _ a (hp _ (by simp))) (All2.cutG h r fun x hx => hp x (by simp [hx]))
theorem V1.cut (h : V1 ρ x y) (hx : nm1 D x) : V1 (cutR ρ D) x y := by
  cases h with
  | a h => exact .a (h.cut (by cases h <;> simpa [nm1] using hx))
  | fn h1 h2 => exact .fn (h1.cutG (p := nmA D) (fun _ _ a b => VA.cut a b) hx.1) (h2.cutG (p := nmA D) (fun _ _ a b => VA.cut a b) hx.2)
theorem VB.cut (h : VB ρ x y) (hx : nmB D x) : VB (cutR ρ D) x y := by
  cases h with
  | v h => exact .v (h.cut (by cases h with | a h => cases h <;> simpa [nmB] using hx | fn => simpa [nmB] using hx))
  | agg h => exact .agg (h.cutG (p := nm1 D) (fun _ _ a b => V1.cut a b) hx)
theorem VR.cut (h : VR ρ x y) (hx : nmR D x) : VR (cutR ρ D) x y := by
  cases h with
  | v h => exact .v (h.cut (by
      cases h with
      | v h => cases h with
        | a h => cases h <;> simpa [nmR] using hx
        | fn => simpa [nmR] using hx
      | agg => simpa [nmR] using hx))
  | tup h => exact .tup (h.cutG (p := nmB D) (fun _ _ a b => VB.cut a b) hx)
end cut

/-! ### plain values: the same in each memory -/
def plA : Value → Bool
  | .bool _ | .int .. | .string _ | .pointer none | .slice none 0 0 | .nilFunc | .nilIface | .map none => true
  | _ => false
def pl1 : Value → Bool
  | .func _ fs cs => fs.toList.all plA && cs.toList.all plA
  | v => plA v
def plB : Value → Bool
  | .agg cs => cs.toList.all pl1
  | v => pl1 v
def plR : Value → Bool
  | .tuple cs => cs.toList.all plB
  | v => plB v
theorem All2.refl_of {R : Value → Value → Prop} {p : Value → Bool} (h : ∀ x, p x = true → R x x) : ∀ {l : List Value}, l.all p = true → All2 R l l
  | [], _ => .nil
  | a :: l, hp => by simp only [List.all_cons, Bool.and_eq_true] at hp; exact .cons (h _ hp.1) (All2.refl_of h hp.2)
theorem plA.self (ρ : Ren) {x : Value} (h : plA x = true) : VA ρ x x := by
  unfold plA at h; split at h <;> first | exact .bool _ | exact .int _ _ | exact .str _ | exact .nilp | exact .nils | exact .nilf | exact .nili | exact .nilm | cases h
theorem pl1.self (ρ : Ren) {x : Value} (h : pl1 x = true) : V1 ρ x x := by
  unfold pl1 at h; split at h
  · simp only [Bool.and_eq_true] at h; exact .fn (All2.refl_of (fun _ => plA.self ρ) h.1) (All2.refl_of (fun _ => plA.self ρ) h.2)
  · exact .a (plA.self ρ h)
theorem plB.self (ρ : Ren) {x : Value} (h : plB x = true) : VB ρ x x := by
  unfold plB at h; split at h
  · exact .agg (All2.refl_of (fun _ => pl1.self ρ) h)
  · exact .v (pl1.self ρ h)
theorem plR.self (ρ : Ren) {x : Value} (h : plR x = true) : VR ρ x x := by
  unfold plR at h; split at h
  · exact .tup (All2.refl_of (fun _ => plB.self ρ) h)
  · exact .v (plB.self ρ h)

/-! ### the abstract memory -/
inductive ABlk where
  | cells (rw : Bool) (sz : Nat) (c : List Value)
  | map (es : List (Value × Value))
  | dead

abbrev AHeap := Nat → Option ABlk
def AHeap.set (s : AHeap) (id : Nat) (b : ABlk) : AHeap := fun i => if i = id then some b else s i
theorem AHeap.set_same (s : AHeap) (id : Nat) (b : ABlk) : (s.set id b) id = some b := by simp [AHeap.set]
theorem AHeap.set_other (s : AHeap) {id i : Nat} (b : ABlk) (h : i ≠ id) : (s.set id b) i = s i := by simp [AHeap.set, h]
theorem AHeap.set_set (s : AHeap) (id : Nat) (b b' : ABlk) : (s.set id b).set id b' = s.set id b' := by funext i; simp only [AHeap.set]; split <;> rfl

def ABlk.own : ABlk → Bool
  | .cells rw _ _ => rw
  | .map _ => true
  | .dead => false
def ABlk.live : ABlk → Bool
  | .cells rw _ c => rw || !c.isEmpty
  | .map _ => true
  | .dead => false
theorem ABlk.live_of_own {b : ABlk} (h : b.own = true) : b.live = true := by
  cases b with
  | cells rw sz c => have : rw = true := h; simp [ABlk.live, this]
  | map es => rfl
  | dead => cases h
def ABlk.nm (D : Nat → Prop) : ABlk → Prop
  | .cells _ _ c => ∀ x ∈ c, nm1 D x
  | .map es => ∀ x ∈ es, nmB D x.1 ∧ nmB D x.2
  | .dead => True

/-- How a block lies in a world. -/
def Rep (b0 : Nat) (ρ : Ren) (w : World) (l : Loc) : ABlk → Prop
  | .cells rw sz c => l.sz = sz ∧ (∀ i v, c[i]? = some v → ∃ v', w.cell? ⟨l.B, l.o + i, none⟩ = some v' ∧ V1 ρ v v') ∧
      (rw = true → b0 ≤ l.B ∧ l.B < w.heap.size ∧ c.length ≤ l.K ∧ ∀ i, i < l.K → (w.cell? ⟨l.B, l.o + i, none⟩).isSome = true ∧ w.frozen? ⟨l.B, l.o + i, none⟩ = false)
  | .map es => b0 ≤ l.B ∧ ∃ ents clk, w.heap[l.B]? = some (.map ents clk) ∧ All2 (fun (e : Value × Value) (m : MapEntry) => VB ρ e.1 m.key ∧ VB ρ e.2 m.val) es ents.toList
  | .dead => True

structure Sim (W0 : World) (ρ : Ren) (s : AHeap) (w : World) : Prop where
  below : Below W0.heap.size W0 w
  rep : ∀ id b, s id = some b → ∃ l, ρ id = some l ∧ Rep W0.heap.size ρ w l b
  dom : ∀ id l, ρ id = some l → (s id).isSome = true
  apart : ∀ id id' b b' l l', id ≠ id' → s id = some b → s id' = some b' → b.own = true → b'.live = true → ρ id = some l → ρ id' = some l' → l.B ≠ l'.B
  fin : ∃ N, ∀ id, N ≤ id → s id = none

theorem Sim.unnamed {W0 ρ s w} (h : Sim W0 ρ s w) {id : Nat} (hs : s id = none) : ρ id = none := by
  cases hr : ρ id with
  | none => rfl
  | some l => have := h.dom id l hr; rw [hs] at this; cases this

theorem Rep.mono {b0 ρ ρ' w l b} (hle : RLe ρ ρ') (h : Rep b0 ρ w l b) : Rep b0 ρ' w l b := by
  cases b with
  | cells rw sz c => exact ⟨h.1, fun i v hv => let ⟨v', a, b⟩ := h.2.1 i v hv; ⟨v', a, b.mono hle⟩, h.2.2⟩
  | map es => exact ⟨h.1, let ⟨a, b, c, d⟩ := h.2; ⟨a, b, c, d.mono fun _ _ x => ⟨x.1.mono hle, x.2.mono hle⟩⟩⟩
  | dead => trivial

/-- A block that lies as it lay. -/
theorem Rep.frame {b0 ρ w w' l b} (h : Rep b0 ρ w l b) (hc : ∀ o, w'.cell? ⟨l.B, o, none⟩ = w.cell? ⟨l.B, o, none⟩) (hf : ∀ o, w'.frozen? ⟨l.B, o, none⟩ = w.frozen? ⟨l.B, o, none⟩)
    (hb : b = .map [] ∨ True → w'.heap[l.B]? = w.heap[l.B]? ∨ (∀ es, b ≠ .map es)) (hz : w.heap.size ≤ w'.heap.size) : Rep b0 ρ w' l b := by
  cases b with
  | cells rw sz c =>
    refine ⟨h.1, fun i v hv => ?_, fun hr => ?_⟩
    · obtain ⟨v', a, b⟩ := h.2.1 i v hv; exact ⟨v', by rw [hc]; exact a, b⟩
    · obtain ⟨a, b, c, d⟩ := h.2.2 hr; exact ⟨a, Nat.lt_of_lt_of_le b hz, c, fun i hi => by rw [hc, hf]; exact d i hi⟩
  | map es =>
    obtain ⟨h1, ents, clk, h2, h3⟩ := h
    rcases hb (.inr trivial) with e | e
    · exact ⟨h1, ents, clk, by rw [e]; exact h2, h3⟩
    · exact absurd rfl (e es)
  | dead => trivial

theorem cell?_of_heap {w w' : World} {B : Nat} (h : w'.heap[B]? = w.heap[B]?) (o : Nat) : w'.cell? ⟨B, o, none⟩ = w.cell? ⟨B, o, none⟩ := World.cell?_of_block (w := w) h
theorem frozen?_of_heap {w w' : World} {B : Nat} (h : w'.heap[B]? = w.heap[B]?) (o : Nat) : w'.frozen? ⟨B, o, none⟩ = w.frozen? ⟨B, o, none⟩ := World.frozen?_of_block (w := w) h
theorem Rep.same {b0 ρ w w' l b} (h : Rep b0 ρ w l b) (hb : w'.heap[l.B]? = w.heap[l.B]?) (hz : w.heap.size ≤ w'.heap.size) : Rep b0 ρ w' l b :=
  h.frame (cell?_of_heap hb) (frozen?_of_heap hb) (fun _ => .inl hb) hz

theorem Rep.of_idle {b0 ρ ρ' w w' l b} (h : Rep b0 ρ w l b) (hb : b.live = false) : Rep b0 ρ' w' l b := by
  cases b with
  | cells rw sz c =>
    simp only [ABlk.live, Bool.or_eq_false_iff, Bool.not_eq_false', List.isEmpty_iff] at hb
    obtain ⟨rfl, rfl⟩ := hb
    exact ⟨h.1, fun i v hv => by simp at hv, fun e => by cases e⟩
  | map es => cases hb
  | dead => trivial
theorem Sim.drew {W0 ρ s w} (h : Sim W0 ρ s w) : Sim W0 ρ s w.drew :=
  ⟨h.below.drew, fun id b hb => let ⟨l, a, r⟩ := h.rep id b hb; ⟨l, a, r.same rfl (Nat.le_refl _)⟩, h.dom, h.apart, h.fin⟩

theorem fin_set {s : AHeap} (h : ∃ N, ∀ id, N ≤ id → s id = none) (i b) : ∃ N, ∀ id, N ≤ id → (s.set i b) id = none := by
  obtain ⟨N, h⟩ := h
  exact ⟨max N (i + 1), fun id hid => by rw [AHeap.set_other _ _ (by omega)]; exact h id (by omega)⟩

/-- A store into a cell of one's own. -/
theorem Sim.store {W0 ρ s w} (h : Sim W0 ρ s w) {id sz c l i v v'} (hs : s id = some (.cells true sz c)) (hl : ρ id = some l) (hi : i < c.length) (hv : V1 ρ v v') :
    (w.cell? ⟨l.B, l.o + i, none⟩).isSome = true ∧ w.frozen? ⟨l.B, l.o + i, none⟩ = false ∧ Sim W0 ρ (s.set id (.cells true sz (c.set i v))) (w.setCell ⟨l.B, l.o + i, none⟩ v') := by
  obtain ⟨l', hl', hr⟩ := h.rep id _ hs
  obtain rfl : l = l' := by rw [hl] at hl'; exact Option.some.inj hl'
  obtain ⟨h1, h2, h3⟩ := hr
  obtain ⟨hb0, hbs, hk, hall⟩ := h3 rfl
  have hi' := hall i (by omega)
  refine ⟨hi'.1, hi'.2, ?_⟩
  refine ⟨h.below.setCell (p := ⟨l.B, l.o + i, none⟩) hb0 _, ?_, ?_, ?_, fin_set h.fin _ _⟩
  · intro id' b hb
    by_cases hid : id' = id
    · subst hid
      rw [AHeap.set_same] at hb
      obtain rfl := Option.some.inj hb
      refine ⟨l, hl, h1, ?_, ?_⟩
      · intro j u hu
        by_cases hj : j = i
        · subst hj
          obtain ⟨x, hx⟩ := Option.isSome_iff_exists.1 hi'.1
          rw [List.getElem?_set_self hi] at hu
          obtain rfl := Option.some.inj hu
          exact ⟨v', World.cell?_setCell_same w _ _ hx, hv⟩
        · rw [List.getElem?_set_ne (Ne.symm hj)] at hu
          obtain ⟨u', a, b⟩ := h2 j u hu
          exact ⟨u', by rw [World.cell?_setCell_other (w := w) (h := by simp; omega)]; exact a, b⟩
      · intro _
        refine ⟨hb0, by simpa using hbs, by simpa using hk, fun j hj => ?_⟩
        rw [World.frozen?_setCell]
        refine ⟨?_, (hall j hj).2⟩
        by_cases hji : j = i
        · subst hji
          obtain ⟨x, hx⟩ := Option.isSome_iff_exists.1 hi'.1
          rw [World.cell?_setCell_same w _ _ hx]; rfl
        · rw [World.cell?_setCell_other (w := w) (h := by simp; omega)]; exact (hall j hj).1
    · rw [AHeap.set_other _ _ hid] at hb
      obtain ⟨l', hl', hr'⟩ := h.rep id' b hb
      refine ⟨l', hl', ?_⟩
      cases hlive : b.live with
      | false => exact hr'.of_idle hlive
      | true =>
        have hne := h.apart id id' _ b l l' (Ne.symm hid) hs hb rfl hlive hl hl'
        exact hr'.same (Below.heap_setCell _ _ _ _ (Ne.symm hne)) (by simp)
  · intro id' l' hl'
    by_cases hid : id' = id
    · subst hid; rw [AHeap.set_same]; rfl
    · rw [AHeap.set_other _ _ hid]; exact h.dom id' l' hl'
  · intro a b x y p q hne hx hy ho hlv hp hq
    by_cases ha : a = id
    · subst ha
      rw [AHeap.set_other _ _ (Ne.symm hne)] at hy
      exact h.apart a b _ y p q hne hs hy rfl hlv hp hq
    · rw [AHeap.set_other _ _ ha] at hx
      by_cases hbb : b = id
      · subst hbb; exact h.apart a b x _ p q hne hx hs ho rfl hp hq
      · rw [AHeap.set_other _ _ hbb] at hy; exact h.apart a b x y p q hne hx hy ho hlv hp hq

def setR (ρ : Ren) (id : Nat) (l : Loc) : Ren := fun i => if i = id then some l else ρ i
theorem setR_le {ρ : Ren} {id l} (h : ρ id = none) : RLe ρ (setR ρ id l) := by
  intro i m hm; unfold setR; split
  · rename_i e; subst e; rw [h] at hm; cases hm
  · exact hm
theorem setR_same (ρ : Ren) (id l) : setR ρ id l id = some l := by simp [setR]
theorem setR_other (ρ : Ren) {id i} (l) (h : i ≠ id) : setR ρ id l i = ρ i := by simp [setR, h]

theorem Below.heap_lt {W0 w : World} (h : Below W0.heap.size W0 w) : W0.heap.size ≤ w.heap.size := h.size

/-- A new name for a place: of a new block, or of one whose elder name is dead. -/
theorem Sim.name {W0 ρ s w} (h : Sim W0 ρ s w) {id l b} (hs : s id = none) (hr : ∀ ρ', RLe ρ ρ' → Rep W0.heap.size ρ' w l b)
    (hap : ∀ id' b' l', s id' = some b' → b'.live = true → ρ id' = some l' → l.B ≠ l'.B) :
    RLe ρ (setR ρ id l) ∧ Sim W0 (setR ρ id l) (s.set id b) w := by
  have hle : RLe ρ (setR ρ id l) := setR_le (h.unnamed hs)
  refine ⟨hle, h.below, ?_, ?_, ?_, fin_set h.fin _ _⟩
  · intro id' b' hb
    by_cases hid : id' = id
    · subst hid; rw [AHeap.set_same] at hb; obtain rfl := Option.some.inj hb
      exact ⟨l, setR_same _ _ _, hr _ hle⟩
    · rw [AHeap.set_other _ _ hid] at hb
      obtain ⟨l', hl', hr'⟩ := h.rep id' b' hb
      exact ⟨l', by rw [setR_other _ _ hid]; exact hl', hr'.mono hle⟩
  · intro id' l' hl'
    by_cases hid : id' = id
    · subst hid; rw [AHeap.set_same]; rfl
    · rw [setR_other _ _ hid] at hl'; rw [AHeap.set_other _ _ hid]; exact h.dom id' l' hl'
  · intro x y bx bY lx ly hne hx hy ho hlv hlx hly
    by_cases hxi : x = id
    · subst hxi
      rw [setR_same] at hlx; obtain rfl := Option.some.inj hlx
      rw [AHeap.set_other _ _ (Ne.symm hne)] at hy; rw [setR_other _ _ (Ne.symm hne)] at hly
      exact hap y bY ly hy hlv hly
    · rw [AHeap.set_other _ _ hxi] at hx; rw [setR_other _ _ hxi] at hlx
      by_cases hyi : y = id
      · subst hyi
        rw [setR_same] at hly; obtain rfl := Option.some.inj hly
        refine fun e => ?_
        exact hap x _ lx hx (ABlk.live_of_own ho) hlx e.symm
      · rw [AHeap.set_other _ _ hyi] at hy; rw [setR_other _ _ hyi] at hly
        exact h.apart x y bx bY lx ly hne hx hy ho hlv hlx hly

theorem Sim.lt {W0 ρ s w} (h : Sim W0 ρ s w) {id b l} (hs : s id = some b) (hl : ρ id = some l) (hn : b.live = true) : l.B < w.heap.size := by
  obtain ⟨l', hl', hr⟩ := h.rep id b hs
  obtain rfl : l = l' := by rw [hl] at hl'; exact Option.some.inj hl'
  cases b with
  | cells rw sz c =>
    cases rw with
    | true => exact (hr.2.2 rfl).2.1
    | false =>
      cases c with
      | nil => simp [ABlk.live] at hn
      | cons v c => obtain ⟨v', hv', _⟩ := hr.2.1 0 v (by simp); exact World.block_lt_of_cell? w _ hv'
  | map es =>
    obtain ⟨_, e, k, he, _⟩ := hr
    exact (Array.getElem?_eq_some_iff.1 he).1
  | dead => cases hn
end Go.Proofs.Ytoiplbackllgfaa.Ab
