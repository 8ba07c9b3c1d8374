/- A sum of 32 bits: between whole numbers, bytes and words of 32 bits. -/
import Derived.Laws.BitsAllLaws
import Derived.RowKit
import Derived.Test.YtedpjakmlniodaaCrc
import Derived.Test.YtedpjakmlniodaaWWords
namespace Go.Proofs.Ytedpjakmlniodaa.Crc
open Go.RowKit Go.Proofs.YtedpjakmlniodaaW.PrintWords

/-- The bits of a byte, the highest first. -/
def bits8 (c : Nat) : List Bool := [c.testBit 7, c.testBit 6, c.testBit 5, c.testBit 4, c.testBit 3, c.testBit 2, c.testBit 1, c.testBit 0]
/-- The bits of bytes. -/
def bitsOf : List Int → List Bool
  | [] => []
  | c :: l => bits8 c.toNat ++ bitsOf l
/-- Bytes. -/
def Bytes (l : List Int) : Prop := ∀ x ∈ l, 0 ≤ x ∧ x < 256
/-- The register behind bytes, byte by byte. -/
def more (x : BitVec 32) : List Int → BitVec 32
  | [] => x
  | c :: l => more (Tn 8 (x ^^^ BitVec.ofNat 32 (c.toNat * 16777216))) l

theorem top8 : ∀ c : Fin 256, top (bits8 c.val) = BitVec.ofNat 32 (c.val * 16777216) := by decide +kernel
theorem more_R (l : List Int) (hl : Bytes l) (x : BitVec 32) : more x l = R x (bitsOf l) := by
  induction l generalizing x with
  | nil => rfl
  | cons c l ih =>
    have hc := hl c (by simp)
    have h8 := top8 ⟨c.toNat, by omega⟩
    simp only at h8
    rw [more, bitsOf, R_append, R_top _ (bits8 c.toNat) (by simp [bits8]), h8]
    exact ih (fun y hy => hl y (by simp [hy])) _
theorem more_append (x : BitVec 32) (l m : List Int) : more x (l ++ m) = more (more x l) m := by
  induction l generalizing x with
  | nil => rfl
  | cons c l ih => exact ih _
theorem bitsOf_append (l m : List Int) : bitsOf (l ++ m) = bitsOf l ++ bitsOf m := by
  induction l with
  | nil => rfl
  | cons c l ih => simp [bitsOf, ih]
theorem bitsOf_length (l : List Int) : (bitsOf l).length = 8 * l.length := by
  induction l with
  | nil => rfl
  | cons c l ih => simp [bitsOf, ih, bits8]; omega
theorem Bytes.of_wf {l : List Int} (h : ∀ x ∈ l, (Lit.int .u8 x).wf = true) : Bytes l := by
  intro x hx
  have := h x hx
  simp [Lit.wf, IntKind.min, IntKind.max, IntKind.signed, IntKind.bits] at this
  omega
theorem Bytes.append {l m : List Int} (h : Bytes l) (k : Bytes m) : Bytes (l ++ m) := by
  intro x hx
  rcases List.mem_append.1 hx with hx | hx
  · exact h x hx
  · exact k x hx
theorem Bytes.take {l : List Int} (h : Bytes l) (n : Nat) : Bytes (l.take n) := fun x hx => h x (List.mem_of_mem_take hx)
theorem Bytes.drop {l : List Int} (h : Bytes l) (n : Nat) : Bytes (l.drop n) := fun x hx => h x (List.mem_of_mem_drop hx)
theorem Bytes.rd {l : List Int} (h : Bytes l) (i : Int) : 0 ≤ rd l i ∧ rd l i < 256 := by
  unfold Go.Proofs.YtedpjakmlniodaaW.PrintWords.rd
  rw [List.getD_eq_getElem?_getD]
  cases e : l[i.toNat]? with
  | none => simp
  | some x => simpa using h x (List.mem_of_getElem? e)

theorem xor32 (X Y : BitVec 32) : Go.bits .xor .u32 (X.toNat : Int) (Y.toNat : Int) = ((X ^^^ Y).toNat : Int) := by
  rw [u32_xor_nat _ _ X.isLt Y.isLt, BitVec.toNat_xor]
theorem not32 (X : BitVec 32) : Go.bits .xor .u32 4294967295 (X.toNat : Int) = ((~~~X).toNat : Int) := by
  have h := xor32 (BitVec.allOnes 32) X
  have e : (((BitVec.allOnes 32).toNat : Nat) : Int) = 4294967295 := by decide
  rw [e] at h
  rw [h, BitVec.allOnes_xor]
theorem high32 (X : BitVec 32) : Go.bits .and .u32 (X.toNat : Int) 2147483648 = 0 ↔ X.msb = false := by
  have h := u32_and_nat X.toNat 2147483648 X.isLt (by decide)
  rw [show ((2147483648 : Nat) : Int) = 2147483648 from rfl] at h
  rw [h]
  have e : X.toNat &&& 2147483648 = (X &&& 0x80000000#32).toNat := by rw [BitVec.toNat_and]; rfl
  rw [e, BitVec.msb_eq_getLsbD_last]
  constructor
  · intro h0
    have h1 : X &&& 0x80000000#32 = 0#32 := BitVec.eq_of_toNat_eq (by simpa using h0)
    have h2 := congrArg (fun z : BitVec 32 => z.getLsbD 31) h1
    simpa using h2
  · intro h0
    have h1 : X &&& 0x80000000#32 = 0#32 := by
      have : (0x80000000#32) = BitVec.twoPow 32 31 := by decide
      rw [this, BitVec.and_twoPow]
      simp at h0
      simp [h0]
    rw [h1]; rfl
theorem shl32 (X : BitVec 32) : (X.toNat : Int) * (2 : Int) % (4294967296 : Int) = ((X <<< 1).toNat : Int) := by
  rw [BitVec.toNat_shiftLeft]
  simp [Nat.shiftLeft_eq]
theorem poly32 : ((poly.toNat : Nat) : Int) = 79764919 := by decide
theorem byte32 (c : Int) (h : 0 ≤ c ∧ c < 256) : c % 4294967296 * 16777216 % 4294967296 = ((BitVec.ofNat 32 (c.toNat * 16777216)).toNat : Int) := by
  rw [BitVec.toNat_ofNat]
  obtain ⟨n, rfl⟩ := Int.eq_ofNat_of_zero_le h.1
  simp only [Int.toNat_natCast]
  omega
theorem bv_lt (X : BitVec 32) : (0 : Int) ≤ X.toNat ∧ (X.toNat : Int) < 4294967296 := ⟨by omega, by have := X.isLt; omega⟩
/-- A number of 32 bits, as a word. -/
theorem bv_of (x : Int) (h : 0 ≤ x ∧ x < 4294967296) : ∃ X : BitVec 32, (X.toNat : Int) = x := ⟨BitVec.ofNat 32 x.toNat, by rw [BitVec.toNat_ofNat]; omega⟩
theorem bv_inj {X Y : BitVec 32} (h : (X.toNat : Int) = Y.toNat) : X = Y := BitVec.eq_of_toNat_eq (by omega)
/-- The four bytes of a number. -/
def tail4 (x : Int) : List Int := [x / 16777216 % 256, x / 65536 % 256, x / 256 % 256, x % 256]
theorem tail4_bytes (x : Int) : Bytes (tail4 x) := by
  intro y hy
  simp [tail4] at hy
  omega
theorem tail4_length (x : Int) : (tail4 x).length = 4 := rfl
theorem top_get (l : List Bool) (i : Nat) (hi : i < 32) (hl : l.length ≤ 32) : (top l).getLsbD i = l.getD (31 - i) false := by
  induction l generalizing i with
  | nil => simp [top]
  | cons b l ih =>
    have hl' : l.length ≤ 31 := by simp at hl; omega
    show (topBit b ^^^ (top l >>> 1)).getLsbD i = _
    rw [BitVec.getLsbD_xor, BitVec.getLsbD_ushiftRight]
    have hb : (topBit b).getLsbD i = (b && decide (i = 31)) := by
      unfold topBit
      cases b
      · simp
      · have : (0x80000000#32) = BitVec.twoPow 32 31 := by decide
        simp only [if_true, this, BitVec.getLsbD_twoPow]
        by_cases h : i = 31
        · subst h; rfl
        · simp [h, Ne.symm h]
    rw [hb]
    by_cases h : i = 31
    · subst h
      have : (top l).getLsbD (1 + 31) = false := BitVec.getLsbD_of_ge _ _ (by omega)
      rw [this]
      simp
    · rw [Nat.add_comm 1 i, ih (i + 1) (by omega) (by omega)]
      have e : 31 - i = (31 - (i + 1)) + 1 := by omega
      rw [e]
      simp [h]
theorem bits_tail4 (X : BitVec 32) : top (bitsOf (tail4 (X.toNat : Int))) = X := by
  apply BitVec.eq_of_getLsbD_eq
  intro i hi
  have hlow : ∀ (j s : Nat), (((X.toNat : Int) / (2 ^ s : Nat) % 256).toNat).testBit j = (decide (j < 8) && X.getLsbD (s + j)) := by
    intro j s
    have e : ((X.toNat : Int) / (2 ^ s : Nat) % 256).toNat = X.toNat / 2 ^ s % 2 ^ 8 := by
      have : ((X.toNat : Int) / (2 ^ s : Nat) % 256) = ((X.toNat / 2 ^ s % 2 ^ 8 : Nat) : Int) := by
        simp
      rw [this]; rfl
    rw [e, Nat.testBit_mod_two_pow, Nat.testBit_div_two_pow, BitVec.testBit_toNat, Nat.add_comm]
  have h24 := fun j => hlow j 24
  have h16 := fun j => hlow j 16
  have h8 := fun j => hlow j 8
  have h0 := fun j => hlow j 0
  simp only [Nat.reducePow, Int.cast_ofNat_Int] at h24 h16 h8 h0
  rw [Int.ediv_one] at h0
  rw [top_get _ _ hi (by simp [bitsOf_length, tail4_length])]
  have hi' : i = 0 ∨ i = 1 ∨ i = 2 ∨ i = 3 ∨ i = 4 ∨ i = 5 ∨ i = 6 ∨ i = 7 ∨ i = 8 ∨ i = 9 ∨ i = 10 ∨ i = 11 ∨ i = 12 ∨ i = 13 ∨ i = 14 ∨ i = 15 ∨ i = 16 ∨ i = 17 ∨ i = 18 ∨ i = 19 ∨ i = 20 ∨ i = 21 ∨ i = 22 ∨ i = 23 ∨ i = 24 ∨ i = 25 ∨ i = 26 ∨ i = 27 ∨ i = 28 ∨ i = 29 ∨ i = 30 ∨ i = 31 := by omega
  simp only [tail4, bitsOf, bits8, List.append_nil, List.cons_append, List.nil_append]
  rcases hi' with rfl | rfl | rfl | rfl | rfl | rfl | rfl | rfl | rfl | rfl | rfl | rfl | rfl | rfl | rfl | rfl | rfl | rfl | rfl | rfl | rfl | rfl | rfl | rfl | rfl | rfl | rfl | rfl | rfl | rfl | rfl | rfl <;> simp [h24, h16, h8, h0]
theorem bitsOf_get (l : List Int) (i : Nat) (h : i < 8 * l.length) : (bitsOf l).getD i false = ((l.getD (i / 8) 0).toNat).testBit (7 - i % 8) := by
  induction l generalizing i with
  | nil => simp at h
  | cons c l ih =>
    rw [bitsOf]
    by_cases h8 : i < 8
    · have hi : i = 0 ∨ i = 1 ∨ i = 2 ∨ i = 3 ∨ i = 4 ∨ i = 5 ∨ i = 6 ∨ i = 7 := by omega
      rcases hi with rfl | rfl | rfl | rfl | rfl | rfl | rfl | rfl <;> simp [bits8]
    · have e1 : i / 8 = (i - 8) / 8 + 1 := by omega
      have e2 : i % 8 = (i - 8) % 8 := by omega
      have := ih (i - 8) (by simp at h; omega)
      rw [e1, e2, List.getD_cons_succ, ← this]
      rw [List.getD_eq_getElem?_getD, List.getElem?_append_right (by simp [bits8]; omega), List.getD_eq_getElem?_getD]
      simp [bits8]
end Go.Proofs.Ytedpjakmlniodaa.Crc
