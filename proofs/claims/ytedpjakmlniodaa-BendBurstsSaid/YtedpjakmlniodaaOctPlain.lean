/- The plain mathematics of numbers in so many bytes: what number bytes are, the bytes of a number, and that both order alike. No program in sight. -/
import Derived.Test.YtedpjakmlniodaaEvLib
import Derived.Laws.BitsLemmas
set_option linter.unusedVariables false
set_option linter.unusedSimpArgs false
namespace Go.Proofs.Ytedpjakmlniodaa.OctPlain
open Go.RowKit Go.Proofs.YtedpjakmlniodaaW.PrintWords Go.Proofs.Ytedpjakmlniodaa.EvLib

/-- All are bytes. -/
abbrev Bytes (l : List Int) : Prop := ∀ x ∈ l, 0 ≤ x ∧ x < 256
theorem Bytes.take {l : List Int} (h : Bytes l) (n : Nat) : Bytes (l.take n) := fun x hx => h x (List.mem_of_mem_take hx)
theorem Bytes.drop {l : List Int} (h : Bytes l) (n : Nat) : Bytes (l.drop n) := fun x hx => h x (List.mem_of_mem_drop hx)
theorem Bytes.append {l m : List Int} (h : Bytes l) (h2 : Bytes m) : Bytes (l ++ m) := fun x hx => (List.mem_append.1 hx).elim (h x) (h2 x)
theorem bytes_wf {l : List Int} (h : ∀ x ∈ l, (Lit.int .u8 x).wf = true) : Bytes l := fun x hx => by
  have := h x hx
  simp [Lit.wf, IntKind.min, IntKind.max, IntKind.signed, IntKind.bits] at this
  omega
/-- The number that bytes are, behind a number. -/
def valFrom (a : Int) (l : List Int) : Int := l.foldl (fun a c => a * 256 + c) a
abbrev val (l : List Int) : Int := valFrom 0 l
theorem valFrom_cons (a c : Int) (l : List Int) : valFrom a (c :: l) = valFrom (a * 256 + c) l := rfl
theorem valFrom_snoc (a c : Int) (l : List Int) : valFrom a (l ++ [c]) = valFrom a l * 256 + c := by simp [valFrom]
theorem valFrom_split (l : List Int) : ∀ a : Int, valFrom a l = a * 256 ^ l.length + val l := by
  induction l with
  | nil => intro a; simp [valFrom]
  | cons c l ih =>
    intro a
    have h1 := ih (a * 256 + c)
    have h2 := ih (0 * 256 + c)
    have e1 : valFrom a (c :: l) = valFrom (a * 256 + c) l := rfl
    have e2 : val (c :: l) = valFrom (0 * 256 + c) l := rfl
    rw [e1, e2, h1, h2, List.length_cons, Int.pow_succ]
    rw [Int.add_mul, Int.add_mul, Int.zero_mul, Int.zero_mul, Int.mul_assoc, Int.mul_comm 256 (256 ^ l.length)]
    omega
theorem val_range (l : List Int) (h : Bytes l) : 0 ≤ val l ∧ val l < 256 ^ l.length := by
  induction l with
  | nil => simp [valFrom]
  | cons c l ih =>
    have h1 := ih (fun x hx => h x (List.mem_cons_of_mem _ hx))
    have hc := h c List.mem_cons_self
    have e2 : val (c :: l) = c * 256 ^ l.length + val l := by
      have : val (c :: l) = valFrom (0 * 256 + c) l := rfl
      rw [this, valFrom_split]; simp
    have hp : (0 : Int) < 256 ^ l.length := Int.pow_pos (by decide)
    have m1 : 0 ≤ c * 256 ^ l.length := Int.mul_nonneg hc.1 (Int.le_of_lt hp)
    have m2 : c * 256 ^ l.length ≤ 255 * 256 ^ l.length := Int.mul_le_mul_of_nonneg_right (by omega) (Int.le_of_lt hp)
    rw [e2, List.length_cons, Int.pow_succ]
    omega
theorem val_take_succ (l : List Int) (i : Nat) (h : i < l.length) : val (l.take (i + 1)) = val (l.take i) * 256 + l[i] := by
  rw [List.take_succ_eq_append_getElem h]
  exact valFrom_snoc 0 _ _
/-- The greatest number of a width. -/
def topV (w : Int) : Int := if w = 1 then 255 else if w = 2 then 65535 else if w = 3 then 16777215 else 2147483647
/-- A number in so many bytes. -/
def num (n w : Int) : List Int := if w = 1 then [n % 256] else if w = 2 then [n / 256 % 256, n % 256] else if w = 3 then [n / 256 / 256 % 256, n / 256 % 256, n % 256] else [n / 256 / 256 / 256 % 256, n / 256 / 256 % 256, n / 256 % 256, n % 256]
theorem width_cases {w : Int} (h1 : 1 ≤ w) (h4 : w ≤ 4) : w = 1 ∨ w = 2 ∨ w = 3 ∨ w = 4 := by omega
theorem num_length {n w : Int} (h1 : 1 ≤ w) (h4 : w ≤ 4) : ((num n w).length : Int) = w := by
  rcases width_cases h1 h4 with rfl | rfl | rfl | rfl <;> rfl
theorem num_bytes (n w : Int) : Bytes (num n w) := by
  intro x hx
  unfold num at hx
  (repeat' split at hx) <;> simp at hx <;> omega
theorem val_num {n w : Int} (h1 : 1 ≤ w) (h4 : w ≤ 4) (h0 : 0 ≤ n) (hn : n ≤ topV w) : val (num n w) = n := by
  rcases width_cases h1 h4 with rfl | rfl | rfl | rfl <;> simp [num, valFrom, topV] at hn ⊢ <;> omega
theorem topV_pos (w : Int) : 255 ≤ topV w ∧ topV w ≤ 2147483647 := by unfold topV; (repeat' split) <;> omega
/-- Bytes put together with a shift: a sum. -/
theorem or_join (a c : Int) (h0 : 0 ≤ a) (ha : a < 1099511627776) (hc : 0 ≤ c) (hc2 : c < 256) : Go.bits .or .i64 (wrap64 (a * 256)) (wrap64 c) = a * 256 + c := by
  rw [wrap_id (by omega) (by omega), wrap_id (by omega) (by omega)]
  refine bits_join .i64 62 (by decide) (fun n h0 h1 => ?_) 8 (a * 256) c (by omega) (by omega) (by omega) hc (by omega) (by omega)
  rw [IntKind.wrap_i64]
  omega
/-- Texts of bytes: one behind the other. -/
theorem strOf_append (a b : List Int) : (strOfNums a ++ strOfNums b).toList = (strOfNums (a ++ b)).toList := by
  rw [Lib.toList_data, Lib.toList_data]
  simp [strOfNums]
theorem ofNat_lt {a b : Int} (ha : 0 ≤ a ∧ a < 256) (hb : 0 ≤ b ∧ b < 256) : (UInt8.ofNat a.toNat < UInt8.ofNat b.toNat) ↔ a < b := by
  rw [UInt8.lt_iff_toNat_lt, UInt8.toNat_ofNat', UInt8.toNat_ofNat']
  omega
theorem ofNat_eq {a b : Int} (ha : 0 ≤ a ∧ a < 256) (hb : 0 ≤ b ∧ b < 256) : (UInt8.ofNat a.toNat = UInt8.ofNat b.toNat) ↔ a = b := by
  rw [← UInt8.toNat_inj, UInt8.toNat_ofNat', UInt8.toNat_ofNat']
  omega
/-- Bytes are ordered as their numbers. -/
theorem less_val (a : List Int) : ∀ b : List Int, a.length = b.length → Bytes a → Bytes b → Op.bytesLess (strOfNums a).toList (strOfNums b).toList = decide (val a < val b) := by
  induction a with
  | nil =>
    intro b hl _ _
    cases b with
    | nil => rw [strOf_list]; simp [Op.bytesLess, valFrom]
    | cons c b => simp at hl
  | cons c a ih =>
    intro b hl ha hb
    cases b with
    | nil => simp at hl
    | cons d b =>
      have hl' : a.length = b.length := by simpa using hl
      have hc := ha c List.mem_cons_self
      have hd := hb d List.mem_cons_self
      have ha' : Bytes a := fun x hx => ha x (List.mem_cons_of_mem _ hx)
      have hb' : Bytes b := fun x hx => hb x (List.mem_cons_of_mem _ hx)
      have r1 := val_range a ha'
      have r2 := val_range b hb'
      have e1 : val (c :: a) = c * 256 ^ b.length + val a := by
        have : val (c :: a) = valFrom (0 * 256 + c) a := rfl
        rw [this, valFrom_split, hl']; simp
      have e2 : val (d :: b) = d * 256 ^ b.length + val b := by
        have : val (d :: b) = valFrom (0 * 256 + d) b := rfl
        rw [this, valFrom_split]; simp
      have ih' := ih b hl' ha' hb'
      rw [strOf_list, strOf_list] at ih' ⊢
      rw [hl'] at r1
      have hp : (0 : Int) < 256 ^ b.length := Int.pow_pos (by decide)
      simp only [List.map_cons, Op.bytesLess]
      rw [ih', e1, e2, Bool.eq_iff_iff]
      simp only [Bool.or_eq_true, Bool.and_eq_true, decide_eq_true_eq, beq_iff_eq]
      rw [ofNat_lt hc hd, ofNat_eq hc hd]
      generalize (256 : Int) ^ b.length = p at *
      constructor
      · rintro (h | ⟨rfl, h⟩)
        · have : (c + 1) * p ≤ d * p := Int.mul_le_mul_of_nonneg_right (by omega) (by omega)
          rw [Int.add_mul] at this
          omega
        · omega
      · intro h
        rcases Int.lt_trichotomy c d with h1 | h1 | h1
        · exact .inl h1
        · subst h1; exact .inr ⟨rfl, by omega⟩
        · have : (d + 1) * p ≤ c * p := Int.mul_le_mul_of_nonneg_right (by omega) (by omega)
          rw [Int.add_mul] at this
          omega
/-- What is put behind bytes, or why not. -/
def putV (l : List Int) (n w : Int) : List Int × Int := if w < 1 ∨ w > 4 then ([], 1) else if n < 0 ∨ n > topV w then ([], 3) else (l ++ num n w, 0)
/-- What is taken from bytes: the number, the bytes that are left, and what is wrong. -/
def takeV (l : List Int) (e w : Int) : Int × List Int × Int :=
  if e ≠ 0 then (0, l, e) else if w < 1 ∨ w > 4 then (0, l, 1) else if (l.length : Int) < w then (0, l, 5) else if val (l.take w.toNat) > topV w then (0, l, 5) else (val (l.take w.toNat), l.drop w.toNat, 0)
theorem takeV_bytes (l : List Int) (e w : Int) (hb : Bytes l) : Bytes (takeV l e w).2.1 := by
  unfold takeV
  (repeat' split) <;> first | exact hb | exact hb.drop _
/-- What is wrong in the end. -/
def endV (l : List Int) (e : Int) : Int := if e = 0 then (if l.length = 0 then 0 else 5) else e
/-- The next list, what is left, and what is wrong. -/
def listV (l : List Int) (e : Int) : List Int × List Int × Int :=
  if e ≠ 0 then ([], l, e) else if l.length < 2 then ([], l, 5) else if (l.length : Int) - 2 < val (l.take 2) then ([], l, 5) else ((l.drop 2).take (val (l.take 2)).toNat, (l.drop 2).drop (val (l.take 2)).toNat, 0)
theorem val2 (l : List Int) (hb : Bytes l) (h : 2 ≤ l.length) : 0 ≤ val (l.take 2) ∧ val (l.take 2) ≤ 65535 := by
  have h1 := val_range (l.take 2) (hb.take 2)
  have h2 : (l.take 2).length = 2 := by rw [List.length_take]; omega
  rw [h2] at h1
  have h3 : (256 : Int) ^ 2 = 65536 := by decide
  omega
theorem listV_bytes (l : List Int) (e : Int) (hb : Bytes l) : Bytes (listV l e).1 ∧ Bytes (listV l e).2.1 := by
  unfold listV
  (repeat' split) <;> first | exact ⟨fun _ h => (by cases h), hb⟩ | exact ⟨(hb.drop _).take _, (hb.drop _).drop _⟩
theorem take_num (n w : Int) (r : List Int) (h1 : 1 ≤ w) (h4 : w ≤ 4) (h0 : 0 ≤ n) (hn : n ≤ topV w) : takeV (num n w ++ r) 0 w = (n, r, 0) := by
  have hl := num_length (n := n) h1 h4
  have hN : w.toNat = (num n w).length := by omega
  unfold takeV
  rw [if_neg (by simp), if_neg (by omega), if_neg (by rw [List.length_append]; omega), hN, List.take_left, List.drop_left, val_num h1 h4 h0 hn, if_neg (by omega)]
theorem num_val (l : List Int) (w : Int) (hb : Bytes l) (h1 : 1 ≤ w) (h4 : w ≤ 4) (hl : (l.length : Int) = w) : num (val l) w = l := by
  rcases width_cases h1 h4 with rfl | rfl | rfl | rfl
  · obtain ⟨a, rfl⟩ : ∃ a, l = [a] := by
      match l, hl with
      | [a], _ => exact ⟨a, rfl⟩
    have ha := hb a (by simp)
    simp [num, valFrom]; omega
  · obtain ⟨a, b, rfl⟩ : ∃ a b, l = [a, b] := by
      match l, hl with
      | [a, b], _ => exact ⟨a, b, rfl⟩
    have ha := hb a (by simp)
    have hb' := hb b (by simp)
    simp [num, valFrom]; omega
  · obtain ⟨a, b, c, rfl⟩ : ∃ a b c, l = [a, b, c] := by
      match l, hl with
      | [a, b, c], _ => exact ⟨a, b, c, rfl⟩
    have ha := hb a (by simp)
    have hb' := hb b (by simp)
    have hc := hb c (by simp)
    simp [num, valFrom]; omega
  · obtain ⟨a, b, c, d, rfl⟩ : ∃ a b c d, l = [a, b, c, d] := by
      match l, hl with
      | [a, b, c, d], _ => exact ⟨a, b, c, d, rfl⟩
    have ha := hb a (by simp)
    have hb' := hb b (by simp)
    have hc := hb c (by simp)
    have hd := hb d (by simp)
    simp [num, valFrom]; omega
/-- What a number that was taken says of the bytes. -/
theorem takeV_inv (l : List Int) (e w : Int) (hb : Bytes l) (h1 : 1 ≤ w) (h4 : w ≤ 4) (h : (takeV l e w).2.2 = 0) : e = 0 ∧ l = num (takeV l e w).1 w ++ (takeV l e w).2.1 ∧ 0 ≤ (takeV l e w).1 ∧ (takeV l e w).1 ≤ topV w := by
  unfold takeV at h ⊢
  by_cases he : e = 0
  · subst he
    rw [if_neg (by simp), if_neg (by omega)] at h ⊢
    by_cases h2 : (l.length : Int) < w
    · rw [if_pos h2] at h; simp at h
    · rw [if_neg h2] at h ⊢
      by_cases h3 : val (l.take w.toNat) > topV w
      · rw [if_pos h3] at h; simp at h
      · rw [if_neg h3]
        refine ⟨rfl, ?_, (val_range _ (hb.take _)).1, by simpa using h3⟩
        rw [num_val _ w (hb.take _) h1 h4 (by rw [List.length_take]; omega), List.take_append_drop]
  · rw [if_pos he] at h; exact absurd h he
end Go.Proofs.Ytedpjakmlniodaa.OctPlain
