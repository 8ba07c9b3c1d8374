/- How far apart bytes are unlike: what bend.Unlike answers, and that sealed bytes are alike or unlike in more than 32 bits. -/
import Derived.Test.YtedpjakmlniodaaRefFrameBendBursts
set_option linter.unusedSimpArgs false
set_option linter.unusedVariables false
namespace Go.Proofs.Ytedpjakmlniodaa.PBendBursts
open Go.RowKit Go.Proofs.YtedpjakmlniodaaW.PrintWords Go.Proofs.YtedpjakmlniodaaW.PrintLast Go.Proofs.Ytedpjakmlniodaa.EvLib Go.Proofs.Ytedpjakmlniodaa.OctPlain Go.Proofs.Ytedpjakmlniodaa.FramePlain
open Go.Proofs.Ytedpjakmlniodaa.Crc (bitsOf bitsOf_get bitsOf_length burst R)

/-- Bit number j of bytes. -/
def bitAt (l : List Int) (j : Nat) : Bool := (bitsOf l).getD j false
theorem bitAt_eq (l : List Int) (j : Nat) (h : j < 8 * l.length) : bitAt l j = ((l.getD (j / 8) 0).toNat).testBit (7 - j % 8) := bitsOf_get l j h
theorem byte_bits : ∀ (x y : Fin 256) (i : Fin 8), (Go.bits .and .u8 (Go.bits .xor .u8 ((x.val : Nat) : Int) ((y.val : Nat) : Int)) (128 / 2 ^ i.val) = 0) = (x.val.testBit (7 - i.val) = y.val.testBit (7 - i.val)) := by
  intro x y i
  have hx := x.isLt
  have hy := y.isLt
  have e1 : Go.bits .xor .u8 ((x.val : Nat) : Int) ((y.val : Nat) : Int) = ((x.val ^^^ y.val : Nat) : Int) := by
    have := u8_xor ((x.val : Nat) : Int) ((y.val : Nat) : Int) (by omega) (by omega) (by omega) (by omega)
    simpa using this
  rw [e1]
  have h3 : x.val ^^^ y.val < 256 := Nat.xor_lt_two_pow (n := 8) hx hy
  have gen : ∀ (z : Fin 256) (i : Fin 8), (Go.bits .and .u8 ((z.val : Nat) : Int) (128 / 2 ^ i.val) = 0) ↔ z.val.testBit (7 - i.val) = false := by decide +kernel
  have := gen ⟨x.val ^^^ y.val, h3⟩ i
  rw [eq_iff_iff, this]
  simp only [Nat.testBit_xor]
  cases x.val.testBit (7 - i.val) <;> cases y.val.testBit (7 - i.val) <;> simp
theorem unlike_test (a b : List Int) (ha : Bytes a) (hb : Bytes b) (hl : a.length = b.length) (i : Nat) (hi : i < 8 * a.length) :
    (Go.bits .and .u8 (Go.bits .xor .u8 (rd a ((i / 8 : Nat) : Int)) (rd b ((i / 8 : Nat) : Int))) (shr .u8 128 ((i % 8 : Nat) : Int)) = 0) ↔ bitAt a i = bitAt b i := by
  rw [bitAt_eq a i hi, bitAt_eq b i (by omega)]
  have h1 : i / 8 < a.length := by omega
  have h2 : i / 8 < b.length := by omega
  have ra := ha (a[i / 8]) (List.getElem_mem h1)
  have rb := hb (b[i / 8]) (List.getElem_mem h2)
  have ea : rd a ((i / 8 : Nat) : Int) = a[i / 8] := rd_nat a _ h1
  have eb : rd b ((i / 8 : Nat) : Int) = b[i / 8] := rd_nat b _ h2
  have ga : a.getD (i / 8) 0 = a[i / 8] := by simp [h1]
  have gb : b.getD (i / 8) 0 = b[i / 8] := by simp [h2]
  rw [ea, eb, ga, gb]
  have hs : shr .u8 128 ((i % 8 : Nat) : Int) = 128 / 2 ^ (i % 8) := by
    unfold shr
    have : min ((i % 8 : Nat) : Int).toNat IntKind.u8.bits = i % 8 := by simp [IntKind.bits]; omega
    rw [this]
  rw [hs]
  obtain ⟨x, hx⟩ := Int.eq_ofNat_of_zero_le ra.1
  obtain ⟨y, hy⟩ := Int.eq_ofNat_of_zero_le rb.1
  have := byte_bits ⟨x, by omega⟩ ⟨y, by omega⟩ ⟨i % 8, by omega⟩
  rw [hx, hy]
  simpa using this
/-- What is known of the first and the last bit that is unlike, of the first i. -/
def Seen (a b : List Int) (i : Nat) (f l : Int) : Prop :=
  (f = -1 ∧ l = -1 ∧ ∀ j, j < i → bitAt a j = bitAt b j) ∨ (∃ p q : Nat, f = p ∧ l = q ∧ p ≤ q ∧ q < i ∧ (bitAt a p ≠ bitAt b p ∧ bitAt a q ≠ bitAt b q) ∧ ∀ j, j < i → bitAt a j ≠ bitAt b j → p ≤ j ∧ j ≤ q)
/-- How far apart. -/
def Far (a b : List Int) (r : Int) : Prop := (r = 0 ∧ ∀ j, j < 8 * a.length → bitAt a j = bitAt b j) ∨ (∃ p q : Nat, p ≤ q ∧ q < 8 * a.length ∧ r = (q : Int) - p + 1 ∧ (bitAt a p ≠ bitAt b p ∧ bitAt a q ≠ bitAt b q) ∧ ∀ j, j < 8 * a.length → bitAt a j ≠ bitAt b j → p ≤ j ∧ j ≤ q)
theorem unlike_loop (a b : List Int) (ha : Bytes a) (hb : Bytes b) (hl : a.length = b.length) (hlen : a.length < 140737488355328) (d : Nat) : ∀ (i : Nat) (f l : Int), i + d = 8 * a.length → Seen a b i f l → ∃ r, Far a b r ∧ Ev (fun k => bend_Unlike.l0 k a b f l (8 * (a.length : Int)) (i : Int)) r := by
  induction d with
  | zero =>
    intro i f l hi hs
    obtain rfl : i = 8 * a.length := by omega
    rcases hs with ⟨rfl, rfl, h⟩ | ⟨p, q, rfl, rfl, hpq, hq, hp, h⟩
    · refine ⟨0, .inl ⟨rfl, h⟩, Ev.step (fun k => by simp only [bend_Unlike.l0]; rw [if_neg (by omega), if_pos (by decide)]) (Ev.now _)⟩
    · refine ⟨(q : Int) - p + 1, .inr ⟨p, q, hpq, hq, rfl, hp, h⟩, Ev.step (fun k => by simp only [bend_Unlike.l0]; rw [if_neg (by omega), if_neg (by omega)]) ?_⟩
      have w1 : wrap64 ((q : Int) - p) = (q : Int) - p := wrap_id (by omega) (by omega)
      have w2 : wrap64 ((q : Int) - p + 1) = (q : Int) - p + 1 := wrap_id (by omega) (by omega)
      rw [w1, w2]
      exact Ev.now _
  | succ d ih =>
    intro i f l hi hs
    have hlt : i < 8 * a.length := by omega
    have hw : wrap64 ((i : Int) + 1) = ((i + 1 : Nat) : Int) := wrap_nat (by omega)
    have hd : wrap64 (Int.tdiv (i : Int) 8) = ((i / 8 : Nat) : Int) := by
      rw [Int.tdiv_eq_ediv_of_nonneg (by omega), wrap_id (by omega) (by omega)]; omega
    have hm : Int.tmod (i : Int) 8 = ((i % 8 : Nat) : Int) := by
      rw [Int.tmod_eq_emod_of_nonneg (by omega)]; omega
    have ht := unlike_test a b ha hb hl i hlt
    have st : ∀ {r : Int} {g : Nat → Option Int}, (∀ k, g k = (if Go.bits .and .u8 (Go.bits .xor .u8 (rd a ((i / 8 : Nat) : Int)) (rd b ((i / 8 : Nat) : Int))) (shr .u8 128 ((i % 8 : Nat) : Int)) = 0 then bend_Unlike.l0 k a b f l (8 * (a.length : Int)) ((i + 1 : Nat) : Int) else (if f < 0 then bend_Unlike.l0 k a b (i : Int) (i : Int) (8 * (a.length : Int)) ((i + 1 : Nat) : Int) else bend_Unlike.l0 k a b f (i : Int) (8 * (a.length : Int)) ((i + 1 : Nat) : Int)))) → Ev g r → Ev (fun k => bend_Unlike.l0 k a b f l (8 * (a.length : Int)) (i : Int)) r := fun {r g} hg h => by
      refine Ev.step (f := g) (fun k => ?_) h
      rw [hg k]
      simp only [bend_Unlike.l0]
      rw [if_pos (by omega), hd, hm, hw, if_pos (by omega), if_pos (by omega), if_pos (by omega), if_pos (by omega)]
    by_cases hsame : bitAt a i = bitAt b i
    · have hs' : Seen a b (i + 1) f l := by
        rcases hs with ⟨rfl, rfl, h⟩ | ⟨p, q, rfl, rfl, hpq, hq, hp, h⟩
        · refine .inl ⟨rfl, rfl, fun j hj => ?_⟩
          by_cases hji : j = i
          · rw [hji]; exact hsame
          · exact h j (by omega)
        · refine .inr ⟨p, q, rfl, rfl, hpq, by omega, hp, fun j hj hne => ?_⟩
          by_cases hji : j = i
          · rw [hji] at hne; exact absurd hsame hne
          · exact h j (by omega) hne
      obtain ⟨r, hf, hr⟩ := ih (i + 1) f l (by omega) hs'
      exact ⟨r, hf, st (fun k => rfl) (Ev.pos (ht.2 hsame) hr)⟩
    · rcases hs with ⟨rfl, rfl, h⟩ | ⟨p, q, rfl, rfl, hpq, hq, hp, h⟩
      · have hs' : Seen a b (i + 1) (i : Int) (i : Int) := .inr ⟨i, i, rfl, rfl, Nat.le_refl _, by omega, ⟨hsame, hsame⟩, fun j hj hne => by
          by_cases hji : j = i
          · omega
          · exact absurd (h j (by omega)) hne⟩
        obtain ⟨r, hf, hr⟩ := ih (i + 1) i i (by omega) hs'
        exact ⟨r, hf, st (fun k => rfl) (Ev.neg (fun h => hsame (ht.1 h)) (Ev.pos (by decide) hr))⟩
      · have hs' : Seen a b (i + 1) (p : Int) (i : Int) := .inr ⟨p, i, rfl, rfl, by omega, by omega, ⟨hp.1, hsame⟩, fun j hj hne => by
          by_cases hji : j = i
          · omega
          · have := h j (by omega) hne; omega⟩
        obtain ⟨r, hf, hr⟩ := ih (i + 1) p i (by omega) hs'
        exact ⟨r, hf, st (fun k => rfl) (Ev.neg (fun h => hsame (ht.1 h)) (Ev.neg (by omega) hr))⟩
theorem unlike_ev (a b : List Int) (ha : Bytes a) (hb : Bytes b) (hlen : a.length < 140737488355328) : ∃ r, (if a.length = b.length then Far a b r else r = -1) ∧ Ev (fun k => bend_Unlike.f k a b) r := by
  unfold bend_Unlike.f
  by_cases hl : a.length = b.length
  · have hw : wrap64 (8 * (a.length : Int)) = 8 * (a.length : Int) := wrap_id (by omega) (by omega)
    obtain ⟨r, hf, hr⟩ := unlike_loop a b ha hb hl hlen (8 * a.length) 0 (-1) (-1) (by omega) (.inl ⟨rfl, rfl, fun j hj => by omega⟩)
    refine ⟨r, by rw [if_pos hl]; exact hf, Ev.pos (by omega) ?_⟩
    rw [hw]
    exact hr
  · exact ⟨-1, by rw [if_neg hl], Ev.neg (by omega) (Ev.now _)⟩
theorem bits_inj {a b : List Int} (ha : Bytes a) (hb : Bytes b) (hl : a.length = b.length) (h : ∀ j, j < 8 * a.length → bitAt a j = bitAt b j) : a = b := by
  apply List.ext_getElem hl
  intro i h1 h2
  have ra := ha a[i] (List.getElem_mem h1)
  have rb := hb b[i] (List.getElem_mem h2)
  have key : a[i].toNat = b[i].toNat := by
    apply Nat.eq_of_testBit_eq
    intro m
    by_cases hm : m < 8
    · have := h (8 * i + (7 - m)) (by omega)
      rw [bitAt_eq a _ (by omega), bitAt_eq b _ (by omega)] at this
      have e1 : (8 * i + (7 - m)) / 8 = i := by omega
      have e2 : 7 - (8 * i + (7 - m)) % 8 = m := by omega
      rw [e1, e2] at this
      simpa [h1, h2] using this
    · have hp : 2 ^ 8 ≤ 2 ^ m := Nat.pow_le_pow_right (by decide) (by omega)
      rw [Nat.testBit_lt_two_pow (by omega), Nat.testBit_lt_two_pow (by omega)]
  omega
/-- Sealed bytes that are not alike are unlike in more than 32 bits in a row. -/
theorem far_sealed {c d : List Int} {r : Int} (hc : Bytes c) (hd : Bytes d) (hl : c.length = d.length) (h : Far (sealed c) (sealed d) r) : (r = 0 ↔ c = d) ∧ (r ≤ 0 ∨ r > 32) := by
  have hls : (sealed c).length = (sealed d).length := by rw [sealed_length, sealed_length, hl]
  rcases h with ⟨rfl, h⟩ | ⟨p, q, hpq, hq, rfl, hp, h⟩
  · exact ⟨⟨fun _ => sealed_inj (bits_inj (sealed_bytes hc) (sealed_bytes hd) hls h), fun _ => rfl⟩, .inl (Int.le_refl _)⟩
  · refine ⟨⟨fun h0 => by omega, fun e => by subst e; exact absurd rfl hp.1⟩, ?_⟩
    by_cases h32 : (q : Int) - p + 1 > 32
    · exact .inr h32
    · exfalso
      have b1 := bitsOf_length (sealed c)
      have b2 := bitsOf_length (sealed d)
      have split : ∀ l : List Bool, q < l.length → l = l.take p ++ (l.drop p).take (q + 1 - p) ++ l.drop (q + 1) := fun l hq' => by
        have e : l.drop (q + 1) = (l.drop p).drop (q + 1 - p) := by rw [List.drop_drop]; congr 1; omega
        rw [List.append_assoc, e, List.take_append_drop, List.take_append_drop]
      have same : ∀ j, j < 8 * (sealed c).length → (j < p ∨ q < j) → (bitsOf (sealed c)).getD j false = (bitsOf (sealed d)).getD j false := fun j hj hjp => by
        by_cases hne : bitAt (sealed c) j = bitAt (sealed d) j
        · exact hne
        · have := h j hj hne; omega
      have et : (bitsOf (sealed c)).take p = (bitsOf (sealed d)).take p := by
        apply List.ext_getElem (by simp only [List.length_take]; omega)
        intro i h1 h2
        simp only [List.length_take] at h1 h2
        have := same i (by omega) (.inl (by omega))
        simp only [List.getElem_take]
        have g1 : i < (bitsOf (sealed c)).length := by omega
        have g2 : i < (bitsOf (sealed d)).length := by omega
        simpa [g1, g2] using this
      have ed : (bitsOf (sealed c)).drop (q + 1) = (bitsOf (sealed d)).drop (q + 1) := by
        apply List.ext_getElem (by simp only [List.length_drop]; omega)
        intro i h1 h2
        simp only [List.length_drop] at h1 h2
        have := same (q + 1 + i) (by omega) (.inr (by omega))
        simp only [List.getElem_drop]
        have g1 : q + 1 + i < (bitsOf (sealed c)).length := by omega
        have g2 : q + 1 + i < (bitsOf (sealed d)).length := by omega
        simpa [g1, g2] using this
      have hne : ((bitsOf (sealed c)).drop p).take (q + 1 - p) ≠ ((bitsOf (sealed d)).drop p).take (q + 1 - p) := fun e => by
        apply hp.1
        have g1 : p < (bitsOf (sealed c)).length := by omega
        have g2 : p < (bitsOf (sealed d)).length := by omega
        have hz := congrArg (fun l => l.getD 0 false) e
        have : (bitsOf (sealed c)).getD p false = (bitsOf (sealed d)).getD p false := by
          have k1 : 0 < q + 1 - p := by omega
          simp only [List.getD_eq_getElem?_getD, List.getElem?_take, k1, if_true, List.getElem?_drop, Nat.add_zero] at hz
          simpa [List.getD_eq_getElem?_getD] using hz
        exact this
      have hb := burst 0xFFFFFFFF#32 ((bitsOf (sealed c)).take p) (z := (bitsOf (sealed c)).drop (q + 1)) (p := ((bitsOf (sealed c)).drop p).take (q + 1 - p)) (q := ((bitsOf (sealed d)).drop p).take (q + 1 - p)) (by simp only [List.length_take, List.length_drop]; omega) (by simp only [List.length_take, List.length_drop]; omega) hne
      apply hb
      rw [← split _ (by omega)]
      rw [et, ed, ← split _ (by omega), sealed_R c hc, sealed_R d hd]
theorem reads_ev (b : List Int) (hb : Bytes b) : Ev (fun k => bend_Reads.f k b) (decide ((decV b).2.2.2.2.2 = 0)) := by
  unfold bend_Reads.f
  refine Ev.bind (decode_ev b hb) ?_
  refine Ev.answered ?_
  congr 1
theorem awake_ev : Ev (fun k => withylaw04_awake.f k) true := by
  unfold withylaw04_awake.f
  have h1 : Ev (fun k => bend_Burst.f k [0] 4 2147483648) [8] := Ev.of (fun k => bend_Burst.mono _ _ _ k) (k := 40) (by decide +kernel)
  have h2 : Ev (fun k => bend_Unlike.f k [8] [0]) 1 := Ev.of (fun k => bend_Unlike.mono _ _ k) (k := 12) (by decide +kernel)
  have reads : ∀ (b : List Int), Bytes b → Ev (fun k => bend_Reads.f k b) (decide ((decV b).2.2.2.2.2 = 0)) := fun b hb => by
    unfold bend_Reads.f
    refine Ev.bind (decode_ev b hb) ?_
    refine Ev.answered ?_
    congr 1
  refine Ev.bind h1 ?_
  refine Ev.pos (by decide) (Ev.pos (by decide) (Ev.pos (by decide) ?_))
  refine Ev.bind h2 ?_
  refine Ev.pos (by decide) ?_
  refine Ev.bind (reads [8] (by decide)) ?_
  refine Ev.neg (by decide) ?_
  have hm : FMay 1 0 0 0 [] := by decide
  have hb : Bytes ([] : List Int) := fun _ h => by cases h
  refine Ev.bind (ref_bytes_ev 1 0 0 0 [] hm hb) ?_
  refine Ev.bind (reads _ (sealed_bytes (body_bytes hb))) ?_
  rw [decV_enc hm]
  exact Ev.now _
theorem fin_ev : Ev (fun k => (withylaw04_awake.f k).bind fun t => some t) true := Ev.bind awake_ev (Ev.now _)
end Go.Proofs.Ytedpjakmlniodaa.PBendBursts
