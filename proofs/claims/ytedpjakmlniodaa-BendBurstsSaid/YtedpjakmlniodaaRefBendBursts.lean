/- What the reference's sum answers: the same register, kept as 32 truths. -/
import Derived.Test.YtedpjakmlniodaaEvBendBursts
set_option linter.unusedSimpArgs false
set_option linter.unusedVariables false
namespace Go.Proofs.Ytedpjakmlniodaa.PBendBursts
open Go.RowKit Go.Proofs.YtedpjakmlniodaaW.PrintWords Go.Proofs.YtedpjakmlniodaaW.PrintLast Go.Proofs.YtedpjakmlniodaaW.PrintMore Go.Proofs.Ytedpjakmlniodaa.Crc Go.Proofs.Ytedpjakmlniodaa.EvLib

/-- 32 truths. -/
def L (f : Nat → Bool) : List Bool := (List.range 32).map f
theorem L_length (f : Nat → Bool) : (L f).length = 32 := by simp [L]
theorem L_get (f : Nat → Bool) (i : Int) (h0 : 0 ≤ i) (h : i < 32) : rdOf false (L f) i = f i.toNat := by
  unfold rdOf
  rw [List.getD_eq_getElem?_getD]
  simp [L, show i.toNat < 32 by omega]
theorem L_congr {f g : Nat → Bool} (h : ∀ j, j < 32 → f j = g j) : L f = L g := by
  unfold L
  exact List.map_congr_left (fun j hj => h j (List.mem_range.1 hj))
theorem L_set (f : Nat → Bool) (i : Nat) (b : Bool) : (L f).set i b = L (fun j => if j = i then b else f j) := by
  apply List.ext_getElem?
  intro j
  rw [List.getElem?_set]
  simp only [L, List.length_map, List.length_range, List.getElem?_map]
  by_cases h : i = j
  · subst h
    by_cases hi : i < 32
    · simp [hi]
    · simp [hi]
  · rw [if_neg h]
    by_cases hj : j < 32
    · simp [hj, Ne.symm h]
    · simp [hj]
/-- A register's truths, the highest first. -/
def toL (X : BitVec 32) : List Bool := L X.getMsbD

theorem withyref01_Of.ev_l4 (X : BitVec 32) (d : Nat) : ∀ i : Nat, i + d = 32 → Ev (fun k => withyref01_Of.l4 k (toL X) ((((~~~X).toNat / 2 ^ d : Nat)) : Int) i) (((~~~X).toNat : Nat) : Int) := by
  induction d with
  | zero =>
    intro i h
    refine Ev.step (fun k => ?_) (Ev.now _)
    simp only [withyref01_Of.l4]
    rw [if_neg (by omega)]
    simp
  | succ d ih =>
    intro i h
    have hX := X.isLt
    have hYlt : (~~~X).toNat < 4294967296 := (~~~X).isLt
    have ih' := ih (i + 1) (by omega)
    have hw : wrap64 ((i : Int) + 1) = ((i + 1 : Nat) : Int) := by rw [wrap_up (by omega) (by omega)]; rfl
    have hbit : (~~~X).getLsbD d = !(X.getMsbD i) := by
      rw [BitVec.getLsbD_not, BitVec.getMsbD_eq_getLsbD, show 32 - 1 - i = d by omega]
      simp [show i < 32 by omega, show d < 32 by omega]
    have hdiv : (~~~X).toNat / 2 ^ d = 2 * ((~~~X).toNat / 2 ^ (d + 1)) + (if X.getMsbD i then 0 else 1) := by
      have h2 : (~~~X).toNat / 2 ^ (d + 1) = (~~~X).toNat / 2 ^ d / 2 := by rw [Nat.pow_succ, Nat.div_div_eq_div_mul]
      have h3 : (~~~X).toNat / 2 ^ d % 2 = if X.getMsbD i then 0 else 1 := by
        have h4 := BitVec.testBit_toNat (~~~X) (i := d)
        rw [hbit, Nat.testBit_eq_decide_div_mod_eq] at h4
        cases hm : X.getMsbD i
        · simp [hm] at h4; simpa using h4
        · simp [hm] at h4; simpa using h4
      rw [h2, ← h3]; omega
    have hsm : 2 * ((~~~X).toNat / 2 ^ (d + 1)) + 1 < 4294967296 := by
      have : (~~~X).toNat / 2 ^ (d + 1) ≤ (~~~X).toNat / 2 ^ 1 := Nat.div_le_div_left (Nat.pow_le_pow_right (by omega) (by omega)) (by omega)
      omega
    refine Ev.step (fun k => ?_) ih'
    simp only [withyref01_Of.l4]
    rw [if_pos (by omega), if_pos (by omega), if_pos (by rw [toL, L_length]; omega), hw]
    have hg : rdOf false (toL X) (i : Int) = X.getMsbD i := by rw [toL, L_get _ _ (by omega) (by omega)]; rfl
    rw [hg]
    cases hm : X.getMsbD i
    · rw [hm] at hdiv
      rw [if_neg (by simp)]
      congr 1
      simp only [Bool.false_eq_true, if_false, if_true, Nat.add_zero] at hdiv
      rw [hdiv]
      generalize (~~~X).toNat / 2 ^ (d + 1) = q at hsm ⊢
      omega
    · rw [hm] at hdiv
      rw [if_pos rfl]
      congr 1
      simp only [Bool.false_eq_true, if_false, if_true, Nat.add_zero] at hdiv
      rw [hdiv]
      generalize (~~~X).toNat / 2 ^ (d + 1) = q at hsm ⊢
      omega

theorem poly_bit : ∀ j : Fin 32, decide (79764919 / 2 ^ (31 - j.val) % 2 = 1) = poly.getMsbD j.val := by decide +kernel

theorem withyref01_Of.ev_l3 (l : List Int) (m : Int) (r : Int) (f : Nat → Bool) (d : Nat) : ∀ i : Nat, i + d = 32 →
    Ev (fun k => withyref01_Of.l1 k l (L (fun j => f j ^^ poly.getMsbD j)) (wrap64 (m + 1))) r →
    Ev (fun k => withyref01_Of.l3 k l (L (fun j => if j < i then (f j ^^ poly.getMsbD j) else f j)) m i) r := by
  induction d with
  | zero =>
    intro i h hr
    refine Ev.step (fun k => ?_) hr
    simp only [withyref01_Of.l3]
    rw [if_neg (by omega)]
    congr 1
    exact L_congr (fun j hj => by rw [if_pos (by omega)])
  | succ d ih =>
    intro i h hr
    have ih' := ih (i + 1) (by omega) hr
    have hw : wrap64 ((i : Int) + 1) = ((i + 1 : Nat) : Int) := by rw [wrap_up (by omega) (by omega)]; rfl
    have hs : IntKind.u64.wrap (wrap64 (31 - (i : Int))) = ((31 - i : Nat) : Int) := by rw [u64_small _ (by omega) (by omega)]; omega
    have hb : (shr .i64 79764919 ((31 - i : Nat) : Int) % 2 = 1) ↔ poly.getMsbD i = true := by
      have h1 := poly_bit ⟨i, by omega⟩
      simp only at h1
      have h2 : shr .i64 79764919 ((31 - i : Nat) : Int) = ((79764919 / 2 ^ (31 - i) : Nat) : Int) := by
        unfold shr
        have : min (((31 - i : Nat) : Int).toNat) IntKind.i64.bits = 31 - i := by simp [IntKind.bits]; omega
        rw [this]
        simp
      rw [h2, ← h1, decide_eq_true_iff]
      generalize 79764919 / 2 ^ (31 - i) = n
      omega
    refine Ev.step (fun k => ?_) ih'
    simp only [withyref01_Of.l3]
    rw [if_pos (by omega), hs, if_pos (by omega), hw]
    by_cases hp : poly.getMsbD i = true
    · rw [if_pos (hb.2 hp), if_pos (by omega), if_pos (by rw [L_length]; omega), L_set]
      congr 1
      refine L_congr (fun j hj => ?_)
      rw [L_get _ _ (by omega) (by omega)]
      simp only [Int.toNat_natCast]
      by_cases e : j = i
      · subst e; simp [hp]
      · simp only [e, if_false]
        by_cases e2 : j < i
        · rw [if_pos e2, if_pos (by omega)]
        · rw [if_neg e2, if_neg (by omega)]
    · rw [if_neg (fun h => hp (hb.1 h))]
      congr 1
      refine L_congr (fun j hj => ?_)
      by_cases e : j = i
      · subst e; simp [hp]
      · by_cases e2 : j < i
        · rw [if_pos e2, if_pos (by omega)]
        · rw [if_neg e2, if_neg (by omega)]

theorem withyref01_Of.ev_l2 (l : List Int) (m : Int) (t : Bool) (r : Int) (f : Nat → Bool) (d : Nat) : ∀ i : Nat, i + d = 31 →
    (t = true → Ev (fun k => withyref01_Of.l3 k l (L (fun j => if j < 31 then f (j + 1) else false)) m 0) r) →
    (t = false → Ev (fun k => withyref01_Of.l1 k l (L (fun j => if j < 31 then f (j + 1) else false)) (wrap64 (m + 1))) r) →
    Ev (fun k => withyref01_Of.l2 k l (L (fun j => if j < i then f (j + 1) else f j)) m t i) r := by
  induction d with
  | zero =>
    intro i h h1 h2
    obtain rfl : i = 31 := by omega
    have e : (L (fun j => if j < 31 then f (j + 1) else f j)).set 31 false = L (fun j => if j < 31 then f (j + 1) else false) := by
      rw [L_set]
      refine L_congr (fun j hj => ?_)
      by_cases e : j = 31
      · subst e; simp
      · rw [if_neg e, if_pos (by omega), if_pos (by omega)]
    cases t with
    | true =>
      refine Ev.step (fun k => ?_) (h1 rfl)
      simp only [withyref01_Of.l2]
      rw [if_neg (by omega), if_pos (by rw [L_length]; omega)]
      simp only [Option.bind_some, if_true]
      rw [show (31 : Int).toNat = 31 from rfl, e]
    | false =>
      refine Ev.step (fun k => ?_) (h2 rfl)
      simp only [withyref01_Of.l2]
      rw [if_neg (by omega), if_pos (by rw [L_length]; omega)]
      simp only [Option.bind_some, Bool.false_eq_true, if_false]
      rw [show (31 : Int).toNat = 31 from rfl, e]
  | succ d ih =>
    intro i h h1 h2
    have ih' := ih (i + 1) (by omega) h1 h2
    have hw : wrap64 ((i : Int) + 1) = ((i + 1 : Nat) : Int) := by rw [wrap_up (by omega) (by omega)]; rfl
    refine Ev.step (fun k => ?_) ih'
    simp only [withyref01_Of.l2]
    rw [if_pos (by omega), hw, if_pos (by omega), if_pos (by rw [L_length]; omega), if_pos (by omega), if_pos (by rw [L_length]; omega), L_set, L_get _ _ (by omega) (by omega)]
    congr 1
    refine L_congr (fun j hj => ?_)
    simp only [Int.toNat_natCast]
    by_cases e : j = i
    · subst e; rw [if_pos rfl, if_neg (by omega), if_pos (by omega)]
    · rw [if_neg e]
      by_cases e2 : j < i
      · rw [if_pos e2, if_pos (by omega)]
      · rw [if_neg e2, if_neg (by omega)]

theorem shiftS (X : BitVec 32) (b : Bool) : toL (S X b) = L (fun j => (if j < 31 then X.getMsbD (j + 1) else false) ^^ ((X.getMsbD 0 != b) && poly.getMsbD j)) := by
  refine L_congr (fun j hj => ?_)
  have hm : (X ^^^ topBit b).msb = (X.getMsbD 0 != b) := by
    rw [BitVec.msb_xor]
    have : (topBit b).msb = b := by cases b <;> decide
    rw [this]
    rfl
  have hs : ((X ^^^ topBit b) <<< 1).getMsbD j = if j < 31 then X.getMsbD (j + 1) else false := by
    rw [BitVec.getMsbD_shiftLeft, BitVec.getMsbD_xor]
    have ht : (topBit b).getMsbD (1 + j) = false := by
      cases b
      · simp [topBit]
      · have : topBit true = BitVec.twoPow 32 31 := by decide
        rw [this, BitVec.getMsbD]
        simp only [BitVec.getLsbD_twoPow]
        simp; omega
    rw [Nat.add_comm j 1, ht]
    by_cases e : j < 31
    · simp [e, Nat.add_comm]
    · have : j = 31 := by omega
      subst this
      simp
  unfold S T
  rw [hm]
  cases hc : (X.getMsbD 0 != b)
  · simp only [Bool.false_eq_true, if_false, Bool.false_and, Bool.xor_false]
    exact hs
  · simp only [if_true, Bool.true_and]
    rw [BitVec.getMsbD_xor, hs]

theorem withyref01_Of.ev_l1 (l : List Int) (hl : Bytes l) (hlen : l.length ≤ 140737488355328) (d : Nat) : ∀ (X : BitVec 32) (i : Nat), i + d = 8 * l.length →
    Ev (fun k => withyref01_Of.l1 k l (toL X) i) (((~~~(R X ((bitsOf l).drop i))).toNat : Nat) : Int) := by
  induction d with
  | zero =>
    intro X i h
    have e : R X ((bitsOf l).drop i) = X := by rw [List.drop_of_length_le (by rw [bitsOf_length]; omega)]; rfl
    rw [e]
    have hz : (~~~X).toNat / 2 ^ 32 = 0 := Nat.div_eq_of_lt (~~~X).isLt
    have h4 := withyref01_Of.ev_l4 X 32 0 (by omega)
    rw [hz] at h4
    refine Ev.step (fun k => ?_) h4
    simp only [withyref01_Of.l1]
    have hw : wrap64 (8 * (l.length : Int)) = 8 * (l.length : Int) := by unfold wrap64; omega
    rw [hw, if_neg (by omega)]
    rfl
  | succ d ih =>
    intro X i h
    have s1 : (i : Int) < 8 * (l.length : Int) := by omega
    have s2 : (0 : Int) ≤ ((i / 8 : Nat) : Int) := by omega
    have s3 : ((i / 8 : Nat) : Int) < (l.length : Int) := by omega
    have s4 : (0 : Int) ≤ ((7 - i % 8 : Nat) : Int) := by omega
    have s5 : (0 : Int) < ((toL X).length : Int) := by rw [toL, L_length]; omega
    have hlt : i < (bitsOf l).length := by rw [bitsOf_length]; omega
    have hw8 : wrap64 (8 * (l.length : Int)) = 8 * (l.length : Int) := by unfold wrap64; omega
    have hdiv : wrap64 (Int.tdiv (i : Int) 8) = ((i / 8 : Nat) : Int) := by
      rw [Int.tdiv_eq_ediv_of_nonneg (by omega)]
      unfold wrap64; omega
    have hmod : IntKind.u64.wrap (wrap64 (7 - (Int.tmod (i : Int) 8))) = ((7 - i % 8 : Nat) : Int) := by
      rw [Int.tmod_eq_emod_of_nonneg (by omega), u64_small _ (by omega) (by omega)]
      omega
    have hrd := hl.rd ((i / 8 : Nat) : Int)
    obtain ⟨c, hc⟩ := Int.eq_ofNat_of_zero_le hrd.1
    have hbit : ((Int.tmod (shr .u8 (rd l ((i / 8 : Nat) : Int)) ((7 - i % 8 : Nat) : Int)) 2) == 1) = (bitsOf l)[i] := by
      have h1 := bitsOf_get l i (by rw [bitsOf_length] at hlt; exact hlt)
      have h2 : (bitsOf l).getD i false = (bitsOf l)[i] := by simp [hlt]
      have h3 : (l.getD (i / 8) 0).toNat = c := by
        have : l.getD (i / 8) 0 = rd l ((i / 8 : Nat) : Int) := by unfold rd; rfl
        rw [this, hc]; rfl
      rw [← h2, h1, h3, hc]
      have h4 : shr .u8 (c : Int) ((7 - i % 8 : Nat) : Int) = ((c / 2 ^ (7 - i % 8) : Nat) : Int) := by
        unfold shr
        have : min (((7 - i % 8 : Nat) : Int).toNat) IntKind.u8.bits = 7 - i % 8 := by simp [IntKind.bits]; omega
        rw [this]
        simp
      rw [h4]
      rw [Nat.testBit_eq_decide_div_mod_eq]
      generalize c / 2 ^ (7 - i % 8) = n
      rw [Int.tmod_eq_emod_of_nonneg (by omega), Bool.eq_iff_iff]
      simp
      omega
    have hR : R X ((bitsOf l).drop i) = R (S X (bitsOf l)[i]) ((bitsOf l).drop (i + 1)) := by
      rw [List.drop_eq_getElem_cons hlt]; rfl
    rw [hR]
    have hwi : wrap64 ((i : Int) + 1) = ((i + 1 : Nat) : Int) := by rw [wrap_up (by omega) (by omega)]; rfl
    have ih' := ih (S X (bitsOf l)[i]) (i + 1) (by omega)
    rw [shiftS, ← hwi] at ih'
    have h0 : rdOf false (toL X) 0 = X.getMsbD 0 := by rw [toL, L_get _ _ (by omega) (by omega)]; rfl
    have hnone : ∀ f g : Nat → Bool, L (fun j => if j < 0 then g j else f j) = L f := fun f g => L_congr (fun j _ => if_neg (by omega))
    have hz : ((0 : Nat) : Int) = 0 := rfl
    have e2 := withyref01_Of.ev_l2 l i (X.getMsbD 0 != (bitsOf l)[i]) (((~~~(R (S X (bitsOf l)[i]) ((bitsOf l).drop (i + 1)))).toNat : Nat) : Int) X.getMsbD 31 0 (by omega)
    rw [hnone, hz] at e2
    have e3 := withyref01_Of.ev_l3 l i (((~~~(R (S X (bitsOf l)[i]) ((bitsOf l).drop (i + 1)))).toNat : Nat) : Int) (fun j => if j < 31 then X.getMsbD (j + 1) else false) 32 0 (by omega)
    rw [hnone, hz] at e3
    refine Ev.step (fun k => ?_) (e2 (fun ht => e3 ?_) (fun ht => ?_))
    · simp only [withyref01_Of.l1]
      rw [hw8, if_pos s1, hdiv, if_pos s2, if_pos s3, hmod, if_pos s4, if_pos s5, hbit, h0, toL]
    · rw [ht] at ih'
      simp only [Bool.true_and] at ih'
      exact ih'
    · rw [ht] at ih'
      simp only [Bool.false_and, Bool.xor_false] at ih'
      exact ih'

theorem withyref01_Of.ev (l : List Int) (hl : Bytes l) (hlen : l.length ≤ 140737488355328) : Ev (fun k => withyref01_Of.f k l) ((sum l).toNat : Int) := by
  have h1 := withyref01_Of.ev_l1 l hl hlen (8 * l.length) 0xFFFFFFFF#32 0 (by omega)
  rw [List.drop_zero, ← more_R l hl] at h1
  have hones : toL 0xFFFFFFFF#32 = L (fun _ => true) := L_congr (by decide +kernel)
  have h0 : ∀ (d i : Nat), i + d = 32 → Ev (fun k => withyref01_Of.l0 k l (L (fun j => decide (j < i))) i) ((sum l).toNat : Int) := by
    intro d
    induction d with
    | zero =>
      intro i h
      refine Ev.step (fun k => ?_) h1
      simp only [withyref01_Of.l0]
      rw [if_neg (by omega), hones]
      congr 1
      exact L_congr (fun j hj => by simp; omega)
    | succ d ih =>
      intro i h
      have hw : wrap64 ((i : Int) + 1) = ((i + 1 : Nat) : Int) := by rw [wrap_up (by omega) (by omega)]; rfl
      refine Ev.step (fun k => ?_) (ih (i + 1) (by omega))
      simp only [withyref01_Of.l0]
      rw [if_pos (by omega), if_pos (by omega), if_pos (by rw [L_length]; omega), hw, L_set]
      congr 1
      refine L_congr (fun j hj => ?_)
      simp only [Int.toNat_natCast]
      by_cases e : j = i
      · subst e; simp
      · simp only [e, if_false]
        rw [Bool.eq_iff_iff]; simp; omega
  have h := h0 32 0 (by omega)
  refine Ev.congr (fun k => ?_) h
  unfold withyref01_Of.f
  rw [if_pos (by decide)]
  rfl
end Go.Proofs.Ytedpjakmlniodaa.PBendBursts
