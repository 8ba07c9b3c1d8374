/- The plain mathematics of a sum of 32 bits: a register that is shifted and turned by a polynomial, on words of 32 bits. No program in sight. -/
namespace Go.Proofs.Ytedpjakmlniodaa.Crc

/-- The polynomial. -/
def poly : BitVec 32 := 0x04C11DB7#32
/-- One shift of the register. -/
def T (x : BitVec 32) : BitVec 32 := if x.msb then (x <<< 1) ^^^ poly else x <<< 1
/-- A bit at the top. -/
def topBit (b : Bool) : BitVec 32 := if b then 0x80000000#32 else 0#32
/-- One bit of a message comes. -/
def S (x : BitVec 32) (b : Bool) : BitVec 32 := T (x ^^^ topBit b)
/-- A message comes. -/
def R (x : BitVec 32) : List Bool → BitVec 32
  | [] => x
  | b :: l => R (S x b) l

theorem T_xor (x y : BitVec 32) : T (x ^^^ y) = T x ^^^ T y := by
  unfold T
  rw [BitVec.msb_xor, BitVec.shiftLeft_xor_distrib]
  cases hx : x.msb <;> cases hy : y.msb <;> simp
  · rw [BitVec.xor_assoc]
  · rw [BitVec.xor_assoc, BitVec.xor_assoc, BitVec.xor_comm (y <<< 1)]
  · have e : (x <<< 1 ^^^ poly) ^^^ (y <<< 1 ^^^ poly) = (x <<< 1 ^^^ y <<< 1) ^^^ (poly ^^^ poly) := by ac_rfl
    rw [e, BitVec.xor_self, BitVec.xor_zero]

theorem T_zero : T 0#32 = 0#32 := by decide

theorem T_bit0 (x : BitVec 32) : (T x).getLsbD 0 = x.msb := by
  unfold T
  cases h : x.msb
  · simp
  · simp [poly]

theorem T_bit (x : BitVec 32) (i : Nat) (hi : i < 31) : (T x).getLsbD (i + 1) = (x.getLsbD i ^^ (x.msb && poly.getLsbD (i + 1))) := by
  unfold T
  have h1 : (x <<< 1).getLsbD (i + 1) = x.getLsbD i := by
    rw [BitVec.getLsbD_shiftLeft]
    simp; omega
  cases h : x.msb
  · simp [h1]
  · simp [h1]

theorem T_inj {x y : BitVec 32} (h : T x = T y) : x = y := by
  have h0 : x.msb = y.msb := by rw [← T_bit0, ← T_bit0, h]
  apply BitVec.eq_of_getLsbD_eq
  intro i hi
  by_cases h31 : i = 31
  · subst h31
    have e1 : x.msb = x.getLsbD 31 := by rw [BitVec.msb_eq_getLsbD_last]
    have e2 : y.msb = y.getLsbD 31 := by rw [BitVec.msb_eq_getLsbD_last]
    rw [← e1, ← e2, h0]
  · have a := T_bit x i (by omega)
    have b := T_bit y i (by omega)
    rw [h, b, h0] at a
    revert a
    cases x.getLsbD i <;> cases y.getLsbD i <;> cases (y.msb && poly.getLsbD (i + 1)) <;> simp

theorem xor_inj {x y z : BitVec 32} (h : x ^^^ z = y ^^^ z) : x = y := by
  have := congrArg (· ^^^ z) h
  simpa [BitVec.xor_assoc] using this

theorem S_inj {x y : BitVec 32} {b : Bool} (h : S x b = S y b) : x = y := xor_inj (T_inj h)
theorem R_inj {x y : BitVec 32} {l : List Bool} (h : R x l = R y l) : x = y := by
  induction l generalizing x y with
  | nil => exact h
  | cons b l ih => exact S_inj (ih h)
theorem R_append (x : BitVec 32) (l m : List Bool) : R x (l ++ m) = R (R x l) m := by
  induction l generalizing x with
  | nil => rfl
  | cons b l ih => exact ih _

/-- So many shifts. -/
def Tn : Nat → BitVec 32 → BitVec 32
  | 0, x => x
  | n + 1, x => Tn n (T x)
theorem Tn_inj {n : Nat} {x y : BitVec 32} (h : Tn n x = Tn n y) : x = y := by
  induction n generalizing x y with
  | zero => exact h
  | succ n ih => exact T_inj (ih h)

/-- Up to 32 bits, from the top on. -/
def top : List Bool → BitVec 32
  | [] => 0#32
  | b :: l => topBit b ^^^ (top l >>> 1)

theorem top_low (l : List Bool) (i : Nat) (h : i + l.length < 32) : (top l).getLsbD i = false := by
  induction l generalizing i with
  | nil => simp [top]
  | cons b l ih =>
    have hl : i + 1 + l.length < 32 := by simp at h; omega
    have hb : (topBit b).getLsbD i = false := by
      unfold topBit
      cases b
      · simp
      · have hi : i < 31 := by omega
        have : (0x80000000#32) = BitVec.twoPow 32 31 := by decide
        simp only [if_true, this, BitVec.getLsbD_twoPow]
        simp; omega
    unfold top
    rw [BitVec.getLsbD_xor, hb, BitVec.getLsbD_ushiftRight, Nat.add_comm 1 i, ih _ hl]
    rfl

theorem T_shr (x : BitVec 32) (h : x.getLsbD 0 = false) : T (x >>> 1) = x := by
  have hm : (x >>> 1).msb = false := by
    rw [BitVec.msb_eq_getLsbD_last, BitVec.getLsbD_ushiftRight]
    simp
  unfold T
  rw [hm]
  simp only [Bool.false_eq_true, if_false]
  apply BitVec.eq_of_getLsbD_eq
  intro i hi
  rw [BitVec.getLsbD_shiftLeft, BitVec.getLsbD_ushiftRight]
  rcases Nat.eq_zero_or_pos i with h0 | hp
  · subst h0
    have h' : x[0] = false := by rw [← BitVec.getLsbD_eq_getElem]; exact h
    simp [h']
  · have : 1 + (i - 1) = i := by omega
    rw [this]; simp; omega

theorem R_top (x : BitVec 32) (l : List Bool) (h : l.length ≤ 32) : R x l = Tn l.length (x ^^^ top l) := by
  induction l generalizing x with
  | nil => simp [R, Tn, top]
  | cons b l ih =>
    have hl : l.length ≤ 31 := by simp at h; omega
    have e : T (x ^^^ top (b :: l)) = S x b ^^^ top l := by
      have e1 : top (b :: l) = topBit b ^^^ (top l >>> 1) := rfl
      rw [e1, ← BitVec.xor_assoc, T_xor, T_shr _ (top_low l 0 (by omega))]
      rfl
    show R (S x b) l = Tn l.length (T (x ^^^ top (b :: l)))
    rw [e]
    exact ih _ (by omega)

theorem top_inj {l m : List Bool} (hl : l.length = m.length) (h32 : l.length ≤ 32) (h : top l = top m) : l = m := by
  induction l generalizing m with
  | nil => exact (List.eq_nil_of_length_eq_zero (by simpa using hl.symm)).symm
  | cons b l ih =>
    cases m with
    | nil => simp at hl
    | cons c m =>
      have hl' : l.length = m.length := by simpa using hl
      have hk : l.length ≤ 31 := by simp at h32; omega
      have hb : b = c := by
        have h31 := congrArg (fun z : BitVec 32 => z.msb) h
        have ms : ∀ (d : Bool) (q : List Bool), (top (d :: q)).msb = d := by
          intro d q
          unfold top
          have hm : (top q >>> 1).msb = false := by rw [BitVec.msb_eq_getLsbD_last, BitVec.getLsbD_ushiftRight]; simp
          rw [BitVec.msb_xor, hm]
          cases d <;> decide
        simpa [ms] using h31
      subst hb
      have e : top l >>> 1 = top m >>> 1 := by
        unfold top at h
        rw [BitVec.xor_comm, BitVec.xor_comm (topBit b)] at h
        exact xor_inj h
      have e2 := congrArg T e
      rw [T_shr _ (top_low l 0 (by omega)), T_shr _ (top_low m 0 (by omega))] at e2
      rw [ih hl' (by omega) e2]

/-- THE THEOREM OF BURSTS: messages that are unlike, all within 32 bits in a row, have unlike registers. -/
theorem burst (x : BitVec 32) (a p q z : List Bool) (hl : p.length = q.length) (h32 : p.length ≤ 32) (hne : p ≠ q) : R x (a ++ p ++ z) ≠ R x (a ++ q ++ z) := by
  intro h
  rw [R_append, R_append, R_append, R_append] at h
  have h2 := R_inj h
  rw [R_top (R x a) p h32, R_top (R x a) q (by omega), hl] at h2
  have h3 := Tn_inj h2
  rw [BitVec.xor_comm, BitVec.xor_comm (R x a)] at h3
  exact hne (top_inj hl h32 (xor_inj h3))

/-- Sums of messages: linear. -/
theorem S_xor (x y : BitVec 32) (b c : Bool) : S (x ^^^ y) (b ^^ c) = S x b ^^^ S y c := by
  unfold S
  have : topBit (b ^^ c) = topBit b ^^^ topBit c := by cases b <;> cases c <;> decide
  rw [this, ← T_xor]
  congr 1
  ac_rfl
theorem R_xor (x y : BitVec 32) (l m : List Bool) (h : l.length = m.length) : R (x ^^^ y) (List.zipWith (· ^^ ·) l m) = R x l ^^^ R y m := by
  induction l generalizing x y m with
  | nil => cases m with
    | nil => rfl
    | cons _ _ => simp at h
  | cons b l ih =>
    cases m with
    | nil => simp at h
    | cons c m =>
      simp only [List.zipWith_cons_cons, R]
      rw [S_xor]
      exact ih _ _ _ (by simpa using h)

end Go.Proofs.Ytedpjakmlniodaa.Crc
