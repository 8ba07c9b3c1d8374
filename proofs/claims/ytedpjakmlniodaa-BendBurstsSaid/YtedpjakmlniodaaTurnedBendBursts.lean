/- What bend's Burst, Flip and Cut answer, and the reference's: bytes with the bits of a pattern turned. -/
import Derived.Test.YtedpjakmlniodaaBendBendBursts
set_option linter.unusedSimpArgs false
set_option linter.unusedVariables false
namespace Go.Proofs.Ytedpjakmlniodaa.PBendBursts
open Go.RowKit Go.Proofs.YtedpjakmlniodaaW.PrintWords Go.Proofs.YtedpjakmlniodaaW.PrintLast Go.Proofs.YtedpjakmlniodaaW.PrintMore Go.Proofs.Ytedpjakmlniodaa.Crc Go.Proofs.Ytedpjakmlniodaa.EvLib

/-- A pattern's bit, the highest first. -/
def pat (p : Nat) (i : Nat) : Bool := p.testBit (31 - i)
/-- Bytes with the first n bits of a pattern turned at a place. -/
def Turned (s : List Int) (at_ p n : Nat) (t : List Int) : Prop := t.length = s.length ∧ Bytes t ∧ ∀ j, j < 8 * s.length → bitAt t j = (bitAt s j ^^ (decide (at_ ≤ j ∧ j < at_ + n) && pat p (j - at_)))

theorem turn_one {t : List Int} (ht : Bytes t) (k : Nat) (hk : k < 8 * t.length) :
    Bytes (t.set (k / 8) (((rd t ((k / 8 : Nat) : Int)).toNat ^^^ 2 ^ (7 - k % 8) : Nat) : Int)) ∧
    ∀ j, j < 8 * t.length → bitAt (t.set (k / 8) (((rd t ((k / 8 : Nat) : Int)).toNat ^^^ 2 ^ (7 - k % 8) : Nat) : Int)) j = (bitAt t j ^^ decide (j = k)) := by
  have hr := ht.rd ((k / 8 : Nat) : Int)
  have hp : 2 ^ (7 - k % 8) < 256 := by
    have : 2 ^ (7 - k % 8) ≤ 2 ^ 7 := Nat.pow_le_pow_right (by omega) (by omega)
    omega
  have hx : (rd t ((k / 8 : Nat) : Int)).toNat ^^^ 2 ^ (7 - k % 8) < 2 ^ 8 := Nat.xor_lt_two_pow (by omega) (by omega)
  constructor
  · intro x hx'
    rcases List.mem_or_eq_of_mem_set hx' with h | h
    · exact ht x h
    · subst h; omega
  · intro j hj
    rw [bitAt_eq _ _ (by rw [List.length_set]; exact hj), bitAt_eq _ _ hj]
    by_cases hq : j / 8 = k / 8
    · have e1 : (t.set (k / 8) (((rd t ((k / 8 : Nat) : Int)).toNat ^^^ 2 ^ (7 - k % 8) : Nat) : Int)).getD (j / 8) 0 = (((rd t ((k / 8 : Nat) : Int)).toNat ^^^ 2 ^ (7 - k % 8) : Nat) : Int) := by
        rw [List.getD_eq_getElem?_getD, hq, List.getElem?_set_self (by omega)]
        rfl
      have e2 : t.getD (j / 8) 0 = rd t ((k / 8 : Nat) : Int) := by rw [hq]; rfl
      rw [e1, e2, Int.toNat_natCast, Nat.testBit_xor]
      congr 1
      rw [Nat.testBit_two_pow]
      rw [Bool.eq_iff_iff]
      simp
      omega
    · have e1 : (t.set (k / 8) (((rd t ((k / 8 : Nat) : Int)).toNat ^^^ 2 ^ (7 - k % 8) : Nat) : Int)).getD (j / 8) 0 = t.getD (j / 8) 0 := by
        rw [List.getD_eq_getElem?_getD, List.getElem?_set_ne (Ne.symm hq), ← List.getD_eq_getElem?_getD]
      rw [e1]
      have : decide (j = k) = false := by simp; intro h; subst h; exact hq rfl
      rw [this, Bool.xor_false]

theorem w_div8 (n : Nat) (h : n < 2251799813685248) : wrap64 (Int.tdiv (n : Int) 8) = ((n / 8 : Nat) : Int) := by
  rw [Int.tdiv_eq_ediv_of_nonneg (by omega), wrap_id (by omega) (by omega)]
  omega
theorem w_mod8 (n : Nat) (h : n < 2251799813685248) : IntKind.u64.wrap (wrap64 (7 - (Int.tmod (n : Int) 8))) = ((7 - n % 8 : Nat) : Int) := by
  rw [Int.tmod_eq_emod_of_nonneg (by omega), u64_small _ (by omega) (by omega)]
  omega
theorem pow_small (j : Nat) (h : j ≤ 7) : 2 ^ j < 256 := by
  have : 2 ^ j ≤ 2 ^ 7 := Nat.pow_le_pow_right (by omega) h
  omega
theorem w_shl8 (j : Nat) (h : j ≤ 7) : shl .u8 1 (j : Int) = ((2 ^ j : Nat) : Int) := by
  unfold shl
  have h5 : min ((j : Int).toNat) IntKind.u8.bits = j := by simp [IntKind.bits]; omega
  have h6 := pow_small j h
  have h7 : (1 : Int) * 2 ^ j = ((2 ^ j : Nat) : Int) := by simp
  rw [h5, h7]
  generalize 2 ^ j = n at h6 ⊢
  simp [IntKind.wrap, IntKind.bits, IntKind.signed]
  omega
theorem w_xor8 (x : Int) (hx : 0 ≤ x ∧ x < 256) (j : Nat) (h : j ≤ 7) : Go.bits .xor .u8 x (shl .u8 1 (j : Int)) = ((x.toNat ^^^ 2 ^ j : Nat) : Int) := by
  have h6 := pow_small j h
  rw [w_shl8 j h, u8_xor _ _ hx.1 hx.2 (Int.natCast_nonneg _) (Int.ofNat_lt.2 h6), Int.toNat_natCast]
theorem w_pat (p i : Nat) (hi : i < 32) : Int.tmod (shr .u32 (p : Int) ((31 - i : Nat) : Int)) 2 = 1 ↔ pat p i = true := by
  have h4 : shr .u32 (p : Int) ((31 - i : Nat) : Int) = ((p / 2 ^ (31 - i) : Nat) : Int) := by
    unfold shr
    have : min (((31 - i : Nat) : Int).toNat) IntKind.u32.bits = 31 - i := by simp [IntKind.bits]; omega
    rw [this]
    simp
  unfold pat
  rw [h4, Nat.testBit_eq_decide_div_mod_eq]
  generalize p / 2 ^ (31 - i) = n
  rw [Int.tmod_eq_emod_of_nonneg (by omega)]
  simp
  omega
theorem w_31 (i : Nat) (hi : i < 32) : IntKind.u64.wrap (wrap64 (31 - (i : Int))) = ((31 - i : Nat) : Int) := by rw [u64_small _ (by omega) (by omega)]; omega
theorem w_add (a i : Nat) (h : a + i < 2251799813685248) : wrap64 ((a : Int) + (i : Int)) = ((a + i : Nat) : Int) := by rw [wrap_id (by omega) (by omega)]; omega

theorem turned_on {s t : List Int} {at_ p i : Nat} (hp : pat p i = true) (hk : at_ + i < 8 * s.length) (ht : Turned s at_ p i t) :
    Turned s at_ p (i + 1) (t.set ((at_ + i) / 8) (((rd t (((at_ + i) / 8 : Nat) : Int)).toNat ^^^ 2 ^ (7 - (at_ + i) % 8) : Nat) : Int)) := by
  obtain ⟨h1, h2, h3⟩ := ht
  obtain ⟨g1, g2⟩ := turn_one h2 (at_ + i) (by omega)
  refine ⟨by rw [List.length_set, h1], g1, fun j hj => ?_⟩
  rw [g2 j (by omega), h3 j hj, Bool.xor_assoc]
  congr 1
  by_cases e : j = at_ + i
  · subst e
    have a1 : ¬ (at_ ≤ at_ + i ∧ at_ + i < at_ + i) := by omega
    have a2 : at_ ≤ at_ + i ∧ at_ + i < at_ + (i + 1) := by omega
    rw [decide_eq_false a1, decide_eq_true a2, show at_ + i - at_ = i by omega, hp]
    simp
  · have a3 : (at_ ≤ j ∧ j < at_ + i) ↔ (at_ ≤ j ∧ j < at_ + (i + 1)) := by omega
    rw [decide_eq_decide.2 a3, decide_eq_false e, Bool.xor_false]
theorem turned_off {s t : List Int} {at_ p i : Nat} (ht : Turned s at_ p i t) (h : pat p i = false ∨ ¬ at_ + i < 8 * s.length) : Turned s at_ p (i + 1) t := by
  obtain ⟨h1, h2, h3⟩ := ht
  refine ⟨h1, h2, fun j hj => ?_⟩
  rw [h3 j hj]
  congr 1
  by_cases e : j = at_ + i
  · subst e
    have hp' : pat p i = false := by
      rcases h with h | h
      · exact h
      · exact absurd hj h
    rw [show at_ + i - at_ = i by omega, hp']
    simp
  · have a3 : (at_ ≤ j ∧ j < at_ + i) ↔ (at_ ≤ j ∧ j < at_ + (i + 1)) := by omega
    rw [decide_eq_decide.2 a3]

theorem withyref01_Burst.ev0 (s : List Int) (hs : s.length < 140737488355328) (at_ p : Nat) (hat : at_ < 8 * s.length) (d : Nat) : ∀ (i : Nat) (t : List Int), i + d = 32 → Turned s at_ p i t →
    ∃ t', Turned s at_ p 32 t' ∧ Ev (fun k => withyref01_Burst.l0 k s at_ p t i) t' := by
  induction d with
  | zero =>
    intro i t hi ht
    obtain rfl : i = 32 := by omega
    refine ⟨t, ht, Ev.step (fun k => ?_) (Ev.now t)⟩
    simp only [withyref01_Burst.l0]
    rw [if_neg (by omega)]
  | succ d ih =>
    intro i t hi ht
    have hlt : i < 32 := by omega
    have hi1 : i + 1 + d = 32 := by omega
    have h7 : 7 - (at_ + i) % 8 ≤ 7 := by omega
    have hbig : at_ + i < 2251799813685248 := by omega
    have c1 : (i : Int) < 32 := by omega
    have c2 : (0 : Int) ≤ ((31 - i : Nat) : Int) := by omega
    have c3 : ((at_ + i : Nat) : Int) ≥ 0 := by omega
    have h8 : wrap64 (8 * (s.length : Int)) = 8 * (s.length : Int) := wrap_id (by omega) (by omega)
    have hwi : wrap64 ((i : Int) + 1) = ((i + 1 : Nat) : Int) := wrap_nat (by omega)
    have hs31 := w_31 i hlt
    have hak := w_add at_ i hbig
    have hbit := w_pat p i hlt
    by_cases hp : pat p i = true
    · by_cases hk : at_ + i < 8 * s.length
      · have hl := ht.1
        have c4 : ((at_ + i : Nat) : Int) < 8 * (s.length : Int) := by omega
        have c5 : (0 : Int) ≤ (((at_ + i) / 8 : Nat) : Int) := by omega
        have c6 : (((at_ + i) / 8 : Nat) : Int) < (t.length : Int) := by omega
        have c7 : (0 : Int) ≤ ((7 - (at_ + i) % 8 : Nat) : Int) := by omega
        have hdiv := w_div8 (at_ + i) hbig
        have hmod := w_mod8 (at_ + i) hbig
        have hxor := w_xor8 _ (ht.2.1.rd (((at_ + i) / 8 : Nat) : Int)) (7 - (at_ + i) % 8) h7
        obtain ⟨t', hT, hE⟩ := ih (i + 1) _ hi1 (turned_on hp hk ht)
        refine ⟨t', hT, Ev.step (fun k => ?_) hE⟩
        simp only [withyref01_Burst.l0]
        rw [if_pos c1, hs31, if_pos c2, if_pos (hbit.2 hp), hak, if_pos c3, h8, if_pos c4, hdiv, if_pos c5, if_pos c6, hmod, if_pos c7, hxor, hwi, Int.toNat_natCast]
      · have c4 : ¬ (((at_ + i : Nat) : Int) < 8 * (s.length : Int)) := by omega
        obtain ⟨t', hT, hE⟩ := ih (i + 1) t hi1 (turned_off ht (.inr hk))
        refine ⟨t', hT, Ev.step (fun k => ?_) hE⟩
        simp only [withyref01_Burst.l0]
        rw [if_pos c1, hs31, if_pos c2, if_pos (hbit.2 hp), hak, if_pos c3, h8, if_neg c4, hwi]
    · obtain ⟨t', hT, hE⟩ := ih (i + 1) t hi1 (turned_off ht (.inl (by simpa using hp)))
      refine ⟨t', hT, Ev.step (fun k => ?_) hE⟩
      simp only [withyref01_Burst.l0]
      rw [if_pos c1, hs31, if_pos c2, if_neg (fun h => hp (hbit.1 h)), hwi]

theorem withyref01_Burst.ev (s : List Int) (hb : Bytes s) (hs : s.length < 140737488355328) (at_ p : Nat) (hat : at_ < 8 * s.length) : ∃ t, Turned s at_ p 32 t ∧ Ev (fun k => withyref01_Burst.f k s at_ p) t := by
  obtain ⟨t, hT, hE⟩ := withyref01_Burst.ev0 s hs at_ p hat 32 0 s (by omega) ⟨rfl, hb, fun j hj => by
    have a : ¬ (at_ ≤ j ∧ j < at_ + 0) := by omega
    rw [decide_eq_false a]; simp⟩
  refine ⟨t, hT, ?_⟩
  unfold withyref01_Burst.f
  refine Ev.name ?_
  refine Ev.pos (by simp; omega) ?_
  rw [List.nil_append]
  exact hE

theorem turned_unsealed {s t : List Int} {at_ p : Nat} (h : Turned (sealed s) at_ p 32 t) (hs : Bytes s) (hne : t ≠ sealed s) : sealed (t.take (t.length - 4)) ≠ t := by
  intro he
  obtain ⟨h1, h2, h3⟩ := h
  have r1 := sealed_R s hs
  have r2 := sealed_R (t.take (t.length - 4)) (h2.take _)
  rw [he] at r2
  have hl : (bitsOf t).length = (bitsOf (sealed s)).length := by rw [bitsOf_length, bitsOf_length, h1]
  have hbits : bitsOf t ≠ bitsOf (sealed s) := fun e => hne (by
    apply List.ext_getElem h1
    intro i hi1 hi2
    have b1 := h2 t[i] (List.getElem_mem hi1)
    have b2 := sealed_bytes hs (sealed s)[i] (List.getElem_mem hi2)
    have hb : ∀ j, j < 8 → t[i].toNat.testBit (7 - j) = (sealed s)[i].toNat.testBit (7 - j) := by
      intro j hj
      have a1 := bitAt_eq t (8 * i + j) (by omega)
      have a2 := bitAt_eq (sealed s) (8 * i + j) (by omega)
      have q1 : (8 * i + j) / 8 = i := by omega
      have q2 : (8 * i + j) % 8 = j := by omega
      rw [q1, q2] at a1 a2
      have g1 : t.getD i 0 = t[i] := by simp [hi1]
      have g2 : (sealed s).getD i 0 = (sealed s)[i] := by simp [hi2]
      rw [g1] at a1
      rw [g2] at a2
      rw [← a1, ← a2]
      unfold bitAt
      rw [e]
    have hn : t[i].toNat = (sealed s)[i].toNat := by
      apply Nat.eq_of_testBit_eq
      intro j
      by_cases hj : j < 8
      · have := hb (7 - j) (by omega)
        rwa [show 7 - (7 - j) = j by omega] at this
      · rw [Nat.testBit_lt_two_pow (x := t[i].toNat) (i := j), Nat.testBit_lt_two_pow (x := (sealed s)[i].toNat) (i := j)]
        · have : 2 ^ 8 ≤ 2 ^ j := Nat.pow_le_pow_right (by omega) (by omega)
          omega
        · have : 2 ^ 8 ≤ 2 ^ j := Nat.pow_le_pow_right (by omega) (by omega)
          omega
    omega)
  have split : ∀ q : List Bool, q = q.take at_ ++ (q.drop at_).take 32 ++ q.drop (at_ + 32) := by
    intro q
    rw [List.append_assoc, ← List.drop_drop, List.take_append_drop, List.take_append_drop]
  have same : ∀ j, ¬ (at_ ≤ j ∧ j < at_ + 32) → (bitsOf t)[j]? = (bitsOf (sealed s))[j]? := by
    intro j hj
    by_cases hlt : j < 8 * (sealed s).length
    · have := h3 j hlt
      rw [decide_eq_false hj] at this
      simp only [Bool.false_and, Bool.xor_false] at this
      unfold bitAt at this
      have l1 : j < (bitsOf t).length := by rw [bitsOf_length]; omega
      have l2 : j < (bitsOf (sealed s)).length := by rw [bitsOf_length]; omega
      rw [List.getElem?_eq_getElem l1, List.getElem?_eq_getElem l2]
      simpa [l1, l2] using this
    · rw [List.getElem?_eq_none (by rw [bitsOf_length]; omega), List.getElem?_eq_none (by rw [bitsOf_length]; omega)]
  have e1 : (bitsOf t).take at_ = (bitsOf (sealed s)).take at_ := by
    apply List.ext_getElem?
    intro j
    rw [List.getElem?_take, List.getElem?_take]
    by_cases hj : j < at_
    · rw [if_pos hj, if_pos hj]; exact same j (by omega)
    · rw [if_neg hj, if_neg hj]
  have e2 : (bitsOf t).drop (at_ + 32) = (bitsOf (sealed s)).drop (at_ + 32) := by
    apply List.ext_getElem?
    intro j
    rw [List.getElem?_drop, List.getElem?_drop]
    exact same _ (by omega)
  have st := split (bitsOf t)
  have ss := split (bitsOf (sealed s))
  rw [e1, e2] at st
  have hpq : ((bitsOf t).drop at_).take 32 ≠ ((bitsOf (sealed s)).drop at_).take 32 := fun e => hbits (by rw [st, e, ← ss])
  have hbst := burst 0xFFFFFFFF#32 ((bitsOf (sealed s)).take at_) _ _ ((bitsOf (sealed s)).drop (at_ + 32)) (by simp [hl]) (by simp; omega) hpq
  rw [← st, ← ss, r1, r2] at hbst
  exact hbst rfl

theorem turned_unique {s t t' : List Int} {a p : Nat} (h : Turned s a p 32 t) (h' : Turned s a p 32 t') : t = t' := by
  refine bits_inj h.2.1 h'.2.1 (by rw [h.1, h'.1]) (fun j hj => ?_)
  rw [h.1] at hj
  rw [h.2.2 j hj, h'.2.2 j hj]
theorem turned_back {s t u : List Int} {a p : Nat} (hs : Bytes s) (h : Turned s a p 32 t) (h' : Turned t a p 32 u) : u = s := by
  refine bits_inj h'.2.1 hs (by rw [h'.1, h.1]) (fun j hj => ?_)
  rw [h'.1] at hj
  have hj2 := hj
  rw [h.1] at hj2
  rw [h'.2.2 j hj, h.2.2 j hj2, Bool.xor_assoc, Bool.xor_self, Bool.xor_false]
theorem w_pat2 (p i : Nat) (hi : i < 32) : Go.bits .and .u32 (shr .u32 (p : Int) ((31 - i : Nat) : Int)) 1 = 1 ↔ pat p i = true := by
  have h4 : shr .u32 (p : Int) ((31 - i : Nat) : Int) = ((p / 2 ^ (31 - i) : Nat) : Int) := by
    unfold shr
    have : min (((31 - i : Nat) : Int).toNat) IntKind.u32.bits = 31 - i := by simp [IntKind.bits]; omega
    rw [this]
    simp
  unfold pat
  rw [h4, Nat.testBit_eq_decide_div_mod_eq]
  generalize p / 2 ^ (31 - i) = n
  have e : Go.bits .and .u32 ((n : Nat) : Int) 1 = ((n % 2 : Nat) : Int) := by
    have h : (BitVec.ofInt 32 ((n : Nat) : Int) &&& BitVec.ofInt 32 1).toNat = n % 2 := by
      rw [BitVec.toNat_and, BitVec.ofInt_natCast, BitVec.toNat_ofNat, show (BitVec.ofInt 32 1).toNat = 1 from by decide, Nat.and_one_is_mod]
      omega
    show IntKind.u32.wrap (((BitVec.ofInt 32 ((n : Nat) : Int) &&& BitVec.ofInt 32 1).toNat : Nat) : Int) = _
    rw [h]
    have := Nat.mod_lt n (show 0 < 2 by decide)
    rcases (show n % 2 = 0 ∨ n % 2 = 1 by omega) with h2 | h2 <;> rw [h2] <;> decide +kernel
  rw [e]
  simp
  omega
theorem w_128 (n : Nat) : shr .u8 128 (Int.tmod (n : Int) 8) = ((2 ^ (7 - n % 8) : Nat) : Int) := by
  rw [Int.tmod_eq_emod_of_nonneg (by omega)]
  have e : ((n : Int) % 8) = ((n % 8 : Nat) : Int) := by omega
  rw [e]
  have h8 : n % 8 < 8 := Nat.mod_lt _ (by decide)
  generalize n % 8 = m at h8
  rcases (show m = 0 ∨ m = 1 ∨ m = 2 ∨ m = 3 ∨ m = 4 ∨ m = 5 ∨ m = 6 ∨ m = 7 by omega) with rfl | rfl | rfl | rfl | rfl | rfl | rfl | rfl <;> decide +kernel
theorem w_xor128 (x : Int) (hx : 0 ≤ x ∧ x < 256) (n : Nat) : Go.bits .xor .u8 x (shr .u8 128 (Int.tmod (n : Int) 8)) = ((x.toNat ^^^ 2 ^ (7 - n % 8) : Nat) : Int) := by
  have h6 := pow_small (7 - n % 8) (by omega)
  rw [w_128, u8_xor _ _ hx.1 hx.2 (Int.natCast_nonneg _) (Int.ofNat_lt.2 h6), Int.toNat_natCast]
theorem burst_loop (s : List Int) (hs : s.length < 140737488355328) (at_ p : Nat) (hat : at_ < 8 * s.length) (d : Nat) : ∀ (i : Nat) (t : List Int), i + d = 32 → Turned s at_ p i t →
    ∃ t', Turned s at_ p 32 t' ∧ Ev (fun k => bend_Burst.l0 k at_ p t i) t' := by
  induction d with
  | zero =>
    intro i t hi ht
    obtain rfl : i = 32 := by omega
    refine ⟨t, ht, Ev.step (fun k => ?_) (Ev.now t)⟩
    simp only [bend_Burst.l0]
    rw [if_neg (by omega)]
  | succ d ih =>
    intro i t hi ht
    have hlt : i < 32 := by omega
    have hi1 : i + 1 + d = 32 := by omega
    have hl := ht.1
    have hbig : at_ + i < 2251799813685248 := by omega
    have c1 : (i : Int) < 32 := by omega
    have c2 : (0 : Int) ≤ ((31 - i : Nat) : Int) := by omega
    have h8 : wrap64 (8 * (t.length : Int)) = 8 * (t.length : Int) := wrap_id (by omega) (by omega)
    have hwi : wrap64 ((i : Int) + 1) = ((i + 1 : Nat) : Int) := wrap_nat (by omega)
    have hs31 : wrap64 (31 - (i : Int)) = ((31 - i : Nat) : Int) := by rw [wrap_id (by omega) (by omega)]; omega
    have hak := w_add at_ i hbig
    have hbit := w_pat2 p i hlt
    by_cases hp : pat p i = true
    · by_cases hk : at_ + i < 8 * s.length
      · have c4 : ((at_ + i : Nat) : Int) < 8 * (t.length : Int) := by omega
        have c5 : (0 : Int) ≤ (((at_ + i) / 8 : Nat) : Int) := by omega
        have c6 : (((at_ + i) / 8 : Nat) : Int) < (t.length : Int) := by omega
        have c7 : (0 : Int) ≤ Int.tmod ((at_ + i : Nat) : Int) 8 := by rw [Int.tmod_eq_emod_of_nonneg (by omega)]; omega
        have hdiv := w_div8 (at_ + i) hbig
        have hxor := w_xor128 _ (ht.2.1.rd (((at_ + i) / 8 : Nat) : Int)) (at_ + i)
        obtain ⟨t', hT, hE⟩ := ih (i + 1) _ hi1 (turned_on hp hk ht)
        refine ⟨t', hT, Ev.step (fun k => ?_) hE⟩
        simp only [bend_Burst.l0]
        rw [if_pos c1, hs31, if_pos c2, if_pos (hbit.2 hp), hak, h8, if_pos c4, hdiv, if_pos c5, if_pos c6, if_pos c7, hxor, hwi, Int.toNat_natCast]
      · have c4 : ¬ (((at_ + i : Nat) : Int) < 8 * (t.length : Int)) := by omega
        obtain ⟨t', hT, hE⟩ := ih (i + 1) t hi1 (turned_off ht (.inr hk))
        refine ⟨t', hT, Ev.step (fun k => ?_) hE⟩
        simp only [bend_Burst.l0]
        rw [if_pos c1, hs31, if_pos c2, if_pos (hbit.2 hp), hak, h8, if_neg c4, hwi]
    · obtain ⟨t', hT, hE⟩ := ih (i + 1) t hi1 (turned_off ht (.inl (by simpa using hp)))
      refine ⟨t', hT, Ev.step (fun k => ?_) hE⟩
      simp only [bend_Burst.l0]
      rw [if_pos c1, hs31, if_pos c2, if_neg (fun h => hp (hbit.1 h)), hwi]
theorem mod_v (a : Int) (n : Nat) (hn : 0 < n) (hn2 : n < 4611686018427387904) : bend_mod.f a (n : Int) = some (a % (n : Int)) := by
  unfold bend_mod.f
  have h1 := Int.tmod_lt_of_pos a (b := (n : Int)) (by omega)
  have h2 : -(n : Int) < Int.tmod a (n : Int) := Int.lt_tmod_of_pos a (by omega)
  have w : wrap64 (Int.tmod a (n : Int) + (n : Int)) = Int.tmod a (n : Int) + (n : Int) := wrap_id (by omega) (by omega)
  rw [if_neg (by omega), w]
  congr 1
  rw [Int.tmod_eq_emod_of_nonneg (by omega), Int.add_emod_right]
  have e : Int.tmod a (n : Int) % (n : Int) = a % (n : Int) := by
    have := Int.tmod_add_mul_tdiv a (n : Int)
    conv => rhs; rw [← this]
    rw [Int.add_mul_emod_self_left]
  exact e
/-- Where a place comes down to. -/
def spot (a : Int) (n : Nat) : Nat := (a % (n : Int)).toNat
theorem spot_v (a : Int) (n : Nat) (hn : 0 < n) : a % (n : Int) = ((spot a n : Nat) : Int) ∧ spot a n < n := by
  have h1 := Int.emod_nonneg a (b := (n : Int)) (by omega)
  have h2 := Int.emod_lt_of_pos a (b := (n : Int)) (by omega)
  unfold spot
  omega
theorem burst_ev (s : List Int) (hb : Bytes s) (h0 : 0 < s.length) (hs : s.length < 140737488355000) (a : Int) (p : Nat) : ∃ t, Turned s (spot a (8 * s.length)) p 32 t ∧ Ev (fun k => bend_Burst.f k s a p) t := by
  have hsp := spot_v a (8 * s.length) (by omega)
  obtain ⟨t, hT, hE⟩ := burst_loop s (by omega) (spot a (8 * s.length)) p hsp.2 32 0 s (by omega) ⟨rfl, hb, fun j hj => by
    have a : ¬ (spot a (8 * s.length) ≤ j ∧ j < spot a (8 * s.length) + 0) := by omega
    rw [decide_eq_false a]; simp⟩
  refine ⟨t, hT, ?_⟩
  unfold bend_Burst.f
  refine Ev.name ?_
  refine Ev.pos (by simp; omega) ?_
  refine Ev.name ?_
  refine Ev.neg (by omega) ?_
  have w : wrap64 (8 * (s.length : Int)) = ((8 * s.length : Nat) : Int) := by rw [wrap_id (by omega) (by omega)]; omega
  rw [w]
  refine Ev.plain (mod_v a (8 * s.length) (by omega) (by omega)) ?_
  rw [hsp.1, List.nil_append]
  exact hE
theorem burst_nil (a : Int) (p : Int) : Ev (fun k => bend_Burst.f k [] a p) [] := by
  unfold bend_Burst.f
  refine Ev.name ?_
  refine Ev.pos (by decide) ?_
  refine Ev.name ?_
  exact Ev.pos (by decide) (Ev.now _)
theorem cut_v (s : List Int) (hs : s.length < 140737488355000) (a : Int) : bend_Cut.f s a = some (s.take (spot a (s.length + 1))) := by
  have hsp := spot_v a (s.length + 1) (by omega)
  have w : wrap64 ((s.length : Int) + 1) = ((s.length + 1 : Nat) : Int) := wrap_nat (by omega)
  unfold bend_Cut.f
  rw [w, mod_v a (s.length + 1) (by omega) (by omega), hsp.1]
  simp only [Option.bind_some, Int.toNat_natCast, List.length_replicate]
  rw [if_pos (by omega), if_pos (by omega)]
  congr 1
  rw [List.drop_of_length_le (by rw [List.length_replicate]; omega), List.append_nil]
theorem flip_of {s t : List Int} {a : Int} (h : Ev (fun k => bend_Burst.f k s a 2147483648) t) : Ev (fun k => bend_Flip.f k s a) t := by
  unfold bend_Flip.f
  exact Ev.bind h (Ev.now _)
theorem at_v (a : Int) (n : Nat) (hn : 0 < n) (hn2 : n < 4611686018427387904) : withyref04_At.f a (n : Int) = some (a % (n : Int)) := by
  unfold withyref04_At.f
  rw [if_neg (by omega)]
  have h2 : -(n : Int) < Int.tmod a (n : Int) := Int.lt_tmod_of_pos a (by omega)
  have h1 := Int.tmod_lt_of_pos a (b := (n : Int)) (by omega)
  have e : Int.tmod a (n : Int) % (n : Int) = a % (n : Int) := by
    have := Int.tmod_add_mul_tdiv a (n : Int)
    conv => rhs; rw [← this]
    rw [Int.add_mul_emod_self_left]
  by_cases h : Int.tmod a (n : Int) < 0
  · rw [if_pos h, wrap_id (by omega) (by omega)]
    congr 1
    rw [← e, ← Int.add_emod_right, Int.emod_eq_of_lt (by omega) (by omega)]
  · rw [if_neg h]
    congr 1
    rw [← e, Int.emod_eq_of_lt (by omega) (by omega)]
theorem rburst_ev (s : List Int) (hb : Bytes s) (h0 : 0 < s.length) (hs : s.length < 140737488355000) (a : Int) (p : Nat) : ∃ t, Turned s (spot a (8 * s.length)) p 32 t ∧ Ev (fun k => withyref04_Burst.f k s a p) t := by
  have hsp := spot_v a (8 * s.length) (by omega)
  obtain ⟨t, hT, hE⟩ := withyref01_Burst.ev s hb (by omega) (spot a (8 * s.length)) p hsp.2
  refine ⟨t, hT, ?_⟩
  unfold withyref04_Burst.f
  refine Ev.neg (by omega) ?_
  have w : wrap64 (8 * (s.length : Int)) = ((8 * s.length : Nat) : Int) := by rw [wrap_id (by omega) (by omega)]; omega
  rw [w]
  refine Ev.plain (at_v a (8 * s.length) (by omega) (by omega)) ?_
  rw [hsp.1]
  exact Ev.bind hE (Ev.now _)
theorem rburst_nil (a : Int) (p : Int) : Ev (fun k => withyref04_Burst.f k [] a p) [] := by
  unfold withyref04_Burst.f
  exact Ev.pos (by decide) (Ev.now _)
end Go.Proofs.Ytedpjakmlniodaa.PBendBursts
