/- For any two lists of as many bytes: the sum of the bytes turned by each other is both sums and the zero bytes' sum, turned by each other. What is left of that statement when the program's machine is taken away. -/
import Derived.Test.YtdpehjkjmhmpdaaEvCrcTurns
namespace Go.Proofs.Ytdpehjkjmhmpdaa.PCrcTurns
open Go.RowKit Go.Proofs.YtdpehjkjmhmpdaaW.PrintWords Go.Proofs.YtdpehjkjmhmpdaaW.PrintLast Go.Proofs.Ytdpehjkjmhmpdaa.Crc Go.Proofs.Ytdpehjkjmhmpdaa.EvLib

/-- Bytes, turned by each other. -/
def turned (a b : List Int) : List Int := List.zipWith (fun x y => Go.bits .xor .u8 x y) a b
theorem byte_xor {x y : Int} (hx : 0 ≤ x ∧ x < 256) (hy : 0 ≤ y ∧ y < 256) : Go.bits .xor .u8 x y = ((x.toNat ^^^ y.toNat : Nat) : Int) := u8_xor x y hx.1 hx.2 hy.1 hy.2
theorem turned_bytes {a b : List Int} (ha : Bytes a) (hb : Bytes b) : Bytes (turned a b) := by
  intro z hz
  obtain ⟨i, hi, rfl⟩ := List.mem_iff_getElem.1 hz
  simp only [turned, List.getElem_zipWith]
  simp only [turned, List.length_zipWith] at hi
  rw [byte_xor (ha _ (List.getElem_mem _)) (hb _ (List.getElem_mem _))]
  have h1 := ha _ (List.getElem_mem (show i < a.length by omega))
  have h2 := hb _ (List.getElem_mem (show i < b.length by omega))
  have : a[i].toNat ^^^ b[i].toNat < 2 ^ 8 := Nat.xor_lt_two_pow (by omega) (by omega)
  omega
theorem bits_turned {a b : List Int} (ha : Bytes a) (hb : Bytes b) (h : a.length = b.length) : bitsOf (turned a b) = List.zipWith (· ^^ ·) (bitsOf a) (bitsOf b) := by
  induction a generalizing b with
  | nil => cases b with
    | nil => rfl
    | cons _ _ => simp at h
  | cons x a ih =>
    cases b with
    | nil => simp at h
    | cons y b =>
      have hx := ha x (by simp)
      have hy := hb y (by simp)
      have ih' := ih (b := b) (fun z hz => ha z (by simp [hz])) (fun z hz => hb z (by simp [hz])) (by simpa using h)
      have e : turned (x :: a) (y :: b) = Go.bits .xor .u8 x y :: turned a b := rfl
      rw [e, byte_xor hx hy]
      simp only [bitsOf]
      rw [ih', List.zipWith_append (by simp [bits8])]
      congr 1
      simp only [bits8, Int.toNat_natCast, Nat.testBit_xor, List.zipWith_cons_cons, List.zipWith_nil_left]
theorem bits_zero (n : Nat) : bitsOf (List.replicate n 0) = List.replicate (8 * n) false := by
  induction n with
  | zero => rfl
  | succ n ih =>
    rw [List.replicate_succ, bitsOf, ih]
    have : 8 * (n + 1) = 8 + 8 * n := by omega
    rw [this, ← List.replicate_append_replicate]
    rfl
theorem zip_false (l : List Bool) (n : Nat) (h : l.length = n) : List.zipWith (· ^^ ·) l (List.replicate n false) = l := by
  induction l generalizing n with
  | nil => subst h; rfl
  | cons b l ih =>
    cases n with
    | zero => simp at h
    | succ n => simp [List.replicate_succ, ih n (by simpa using h)]
theorem zero_bytes (n : Nat) : Bytes (List.replicate n 0) := by
  intro x hx
  have := List.eq_of_mem_replicate hx
  omega
theorem sums_turn {a b : List Int} (ha : Bytes a) (hb : Bytes b) (h : a.length = b.length) : sum (turned a b) = (sum a ^^^ sum b) ^^^ sum (List.replicate a.length 0) := by
  unfold sum
  rw [more_R _ (turned_bytes ha hb), more_R _ ha, more_R _ hb, more_R _ (zero_bytes _), bits_turned ha hb h, bits_zero]
  have e1 := R_xor 0xFFFFFFFF#32 0xFFFFFFFF#32 (bitsOf a) (bitsOf b) (by rw [bitsOf_length, bitsOf_length, h])
  have e2 := R_xor (0xFFFFFFFF#32 ^^^ 0xFFFFFFFF#32) 0xFFFFFFFF#32 (List.zipWith (· ^^ ·) (bitsOf a) (bitsOf b)) (List.replicate (8 * a.length) false) (by simp [bitsOf_length, h])
  rw [e1, zip_false _ _ (by simp [bitsOf_length, h])] at e2
  have e3 : (0xFFFFFFFF#32 ^^^ 0xFFFFFFFF#32) ^^^ 0xFFFFFFFF#32 = 0xFFFFFFFF#32 := by decide
  rw [e3] at e2
  rw [e2]
  generalize R 0xFFFFFFFF#32 (bitsOf a) = A
  generalize R 0xFFFFFFFF#32 (bitsOf b) = B
  generalize R 0xFFFFFFFF#32 (List.replicate (8 * a.length) false) = C
  have n3 : ∀ x : BitVec 32, ~~~x = x ^^^ BitVec.allOnes 32 := fun x => by rw [BitVec.xor_comm, BitVec.allOnes_xor]
  rw [n3, n3, n3, n3]
  generalize BitVec.allOnes 32 = O
  have e4 : (A ^^^ O ^^^ (B ^^^ O)) ^^^ (C ^^^ O) = (A ^^^ B ^^^ C ^^^ O) ^^^ (O ^^^ O) := by ac_rfl
  rw [e4, BitVec.xor_self, BitVec.xor_zero]

theorem turned_take (a b : List Int) (i : Nat) (ha : i < a.length) (hb : i < b.length) : turned (a.take i) (b.take i) ++ [Go.bits .xor .u8 a[i] b[i]] = turned (a.take (i + 1)) (b.take (i + 1)) := by
  unfold turned
  rw [List.take_succ_eq_append_getElem ha, List.take_succ_eq_append_getElem hb, List.zipWith_append (by simp; omega)]
  rfl

theorem law_l0 (a b : List Int) (ha : Bytes a) (hb : Bytes b) (h : a.length = b.length) (hlen : a.length ≤ 140737488351232) (d : Nat) : ∀ i : Nat, i + d = a.length →
    Ev (fun k => withylaw01_CrcTurns.l0 k a b (turned (a.take i) (b.take i)) i) true := by
  induction d with
  | zero =>
    intro i hi
    have e : turned (a.take i) (b.take i) = turned a b := by rw [List.take_of_length_le (by omega), List.take_of_length_le (by omega)]
    rw [e]
    have s1 : ¬ ((i : Int) < (a.length : Int)) := by omega
    have s2 : (0 : Int) ≤ (a.length : Int) := by omega
    have s3 : (a.length : Int).toNat ≤ 281474976710656 := by omega
    refine Ev.step (f := fun k => _) (fun k => by simp only [withylaw01_CrcTurns.l0]; rw [if_neg s1, if_pos s2, if_pos s3]) ?_
    refine Ev.bind (crc_Of.ev _ (turned_bytes ha hb) (by unfold turned; rw [List.length_zipWith]; omega)) ?_
    refine Ev.bind (crc_Of.ev a ha (by omega)) ?_
    refine Ev.bind (crc_Of.ev b hb (by omega)) ?_
    refine Ev.bind (crc_Of.ev _ (zero_bytes _) (by rw [List.length_replicate]; omega)) ?_
    refine Ev.pos ?_ ?_
    · rw [xor32, xor32, sums_turn ha hb h, Int.toNat_natCast]
    · exact Ev.bind awake_ev (Ev.now _)
  | succ d ih =>
    intro i hi
    have hia : i < a.length := by omega
    have hib : i < b.length := by omega
    have s1 : (i : Int) < (a.length : Int) := by omega
    have s2 : (0 : Int) ≤ (i : Int) := by omega
    have s3 : (i : Int) < (b.length : Int) := by omega
    have s4 : (turned (a.take i) (b.take i)).length < 140737488355328 := by simp [turned]; omega
    have ra : rd a (i : Int) = a[i] := by simp [rd, hia]
    have rb : rd b (i : Int) = b[i] := by simp [rd, hib]
    have hw : wrap64 ((i : Int) + 1) = ((i + 1 : Nat) : Int) := wrap_nat (by omega)
    refine Ev.step (fun k => ?_) (ih (i + 1) (by omega))
    simp only [withylaw01_CrcTurns.l0]
    rw [if_pos s1, if_pos s2, if_pos s3, if_pos s4, ra, rb, hw, turned_take _ _ _ hia hib]
end Go.Proofs.Ytdpehjkjmhmpdaa.PCrcTurns
namespace Go.Proofs.Ytdpehjkjmhmpdaa.Pure
open Go.RowKit Go.Proofs.Ytdpehjkjmhmpdaa.PCrcTurns Go.Proofs.YtdpehjkjmhmpdaaW.PrintWords Go.Proofs.YtdpehjkjmhmpdaaW.PrintLast Go.Proofs.Ytdpehjkjmhmpdaa.Crc Go.Proofs.Ytdpehjkjmhmpdaa.EvLib

theorem CrcTurns : withylaw01_CrcTurns.Pure := by
  intro a b hm hr hw hm' hr' hw'
  have ha := Bytes.of_wf hw
  have hb := Bytes.of_wf hw'
  have yes : Ev (fun k => withylaw01_CrcTurns.j0 k a b true) true := by
    refine Ev.step (fun k => ?_) (Ev.bind (f := fun _ t => some t) awake_ev (Ev.now _))
    simp only [withylaw01_CrcTurns.j0]
    rfl
  refine Ev.rounds (g := fun k => withylaw01_CrcTurns.f k a b) ?_
  unfold withylaw01_CrcTurns.f
  refine Ev.cases (fun h => ?_) (fun h => yes)
  by_cases h2 : (a.length : Int) > 2000
  · rw [decide_eq_true h2]; exact yes
  · rw [decide_eq_false h2]
    have h0 := law_l0 a b ha hb (by omega) (by omega) a.length 0 (by omega)
    refine Ev.step (fun k => ?_) h0
    simp only [withylaw01_CrcTurns.j0]
    rfl
end Go.Proofs.Ytdpehjkjmhmpdaa.Pure
