/- Small words on printed functions with rounds: how 'from some number of rounds on it answers r' goes through a test, a name and a call; and sums that don't wrap. -/
import Derived.RowKit
import Derived.Lib.Bytes
import Derived.Test.YtlbcffdjdbjgcaaWWords
namespace Go.Proofs.Ytlbcffdjdbjgcaa.EvLib
open Go.RowKit Go.Proofs.YtlbcffdjdbjgcaaW.PrintWords

theorem Ev.pos {α : Type} {c : Prop} [Decidable c] {A B : Nat → Option α} {r : α} (hc : c) (h : Ev A r) : Ev (fun k => if c then A k else B k) r := by
  refine Ev.congr (fun k => ?_) h
  rw [if_pos hc]
theorem Ev.neg {α : Type} {c : Prop} [Decidable c] {A B : Nat → Option α} {r : α} (hc : ¬ c) (h : Ev B r) : Ev (fun k => if c then A k else B k) r := by
  refine Ev.congr (fun k => ?_) h
  rw [if_neg hc]
theorem Ev.name {α β : Type} {x : α} {f : Nat → α → Option β} {r : β} (h : Ev (fun k => f k x) r) : Ev (fun k => (some x).bind (f k)) r := h
theorem Ev.cases {α : Type} {c : Prop} [Decidable c] {A B : Nat → Option α} {r : α} (h1 : c → Ev A r) (h2 : ¬ c → Ev B r) : Ev (fun k => if c then A k else B k) r := by
  by_cases hc : c
  · exact Ev.pos hc (h1 hc)
  · exact Ev.neg hc (h2 hc)
/-- A call that is answered. -/
theorem Ev.answered {α : Type} {g : Option α} {r : α} (h : g = some r) : Ev (fun _ => g) r := ⟨0, fun _ _ => h⟩
/-- A function without rounds, called. -/
theorem Ev.plain {α β : Type} {g : Option α} {f : Nat → α → Option β} {a : α} {r : β} (h : g = some a) (k : Ev (fun n => f n a) r) : Ev (fun n => g.bind (f n)) r := Ev.bind (g := fun _ => g) (Ev.answered h) k
theorem wrap_id {x : Int} (h0 : -9223372036854775808 ≤ x) (h : x ≤ 9223372036854775807) : wrap64 x = x := by unfold wrap64; omega
theorem wrap_up {i : Int} (h0 : 0 ≤ i) (h : i ≤ 9223372036854775806) : wrap64 (i + 1) = i + 1 := by unfold wrap64; omega
theorem wrap_nat {i : Nat} (h : i < 9223372036854775807) : wrap64 ((i : Int) + 1) = ((i + 1 : Nat) : Int) := by rw [wrap_up (by omega) (by omega)]; rfl
theorem u64_small (x : Int) (h0 : 0 ≤ x) (h : x < 9223372036854775807) : IntKind.u64.wrap (wrap64 x) = x := by
  have : wrap64 x = x := by unfold wrap64; omega
  rw [this]
  simp [IntKind.wrap, IntKind.bits, IntKind.signed]
  omega
/-- Text of bytes: alike just if the bytes are. -/
theorem strOf_list (l : List Int) : (strOfNums l).toList = l.map fun n => UInt8.ofNat n.toNat := by
  rw [Lib.toList_data]
  simp [strOfNums]
theorem strOf_inj {l m : List Int} (hl : ∀ x ∈ l, 0 ≤ x ∧ x < 256) (hm : ∀ x ∈ m, 0 ≤ x ∧ x < 256) (h : (strOfNums l).toList = (strOfNums m).toList) : l = m := by
  rw [strOf_list, strOf_list] at h
  have back : ∀ (q : List Int), (∀ x ∈ q, 0 ≤ x ∧ x < 256) → (q.map fun n => UInt8.ofNat n.toNat).map (fun u => (u.toNat : Int)) = q := by
    intro q hq
    rw [List.map_map]
    conv => rhs; rw [← List.map_id q]
    refine List.map_congr_left (fun x hx => ?_)
    have := hq x hx
    simp only [Function.comp, id, UInt8.toNat_ofNat']
    omega
  rw [← back l hl, ← back m hm, h]
end Go.Proofs.Ytlbcffdjdbjgcaa.EvLib
