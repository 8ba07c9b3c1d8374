/- How far apart bytes are unlike: what bend.Unlike answers, and that sealed bytes are alike or unlike in more than 32 bits. -/
import Derived.Test.YtedpjakmlniodaaRefFrameBendUnlike
set_option linter.unusedSimpArgs false
set_option linter.unusedVariables false
namespace Go.Proofs.Ytedpjakmlniodaa.PBendUnlike
open Go.RowKit Go.Proofs.YtedpjakmlniodaaW.PrintWords Go.Proofs.YtedpjakmlniodaaW.PrintLast Go.Proofs.Ytedpjakmlniodaa.EvLib Go.Proofs.Ytedpjakmlniodaa.OctPlain Go.Proofs.Ytedpjakmlniodaa.FramePlain
open Go.Proofs.Ytedpjakmlniodaa.Crc (bitsOf bitsOf_get bitsOf_length burst R)

/-- Bit number j of bytes. -/
def bitAt (l : List Int) (j : Nat) : Bool := (bitsOf l).getD j false
theorem bitAt_eq (l : List Int) (j : Nat) (h : j < 8 * l.length) : bitAt l j = ((l.getD (j / 8) 0).toNat).testBit (7 - j % 8) := bitsOf_get l j h
theorem byte_bits : ∀ (x y : Fin 256) (i : Fin 8), (Go.bits .and .u8 (Go.bits .xor .u8 ((x.val : Nat) : Int) ((y.val : Nat) : Int)) (128 / 2 ^ i.val) = 0) = (x.val.testBit (7 - i.val) = y.val.testBit (7 - i.val)) := by
  intro x y i
  have hx := x.isLt
  have hy := y.isLt
  have e1 : Go.bits .xor .u8 ((x.val : Nat) : Int) ((y.val : Nat) : Int) = ((x.val ^^^ y.val : Nat) : Int) := by
    have := u8_xor ((x.val : Nat) : Int) ((y.val : Nat) : Int) (by omega) (by omega) (by omega) (by omega)
    simpa using this
  rw [e1]
  have h3 : x.val ^^^ y.val < 256 := Nat.xor_lt_two_pow (n := 8) hx hy
  have gen : ∀ (z : Fin 256) (i : Fin 8), (Go.bits .and .u8 ((z.val : Nat) : Int) (128 / 2 ^ i.val) = 0) ↔ z.val.testBit (7 - i.val) = false := by decide +kernel
  have := gen ⟨x.val ^^^ y.val, h3⟩ i
  rw [eq_iff_iff, this]
  simp only [Nat.testBit_xor]
  cases x.val.testBit (7 - i.val) <;> cases y.val.testBit (7 - i.val) <;> simp
theorem unlike_test (a b : List Int) (ha : Bytes a) (hb : Bytes b) (hl : a.length = b.length) (i : Nat) (hi : i < 8 * a.length) :
    (Go.bits .and .u8 (Go.bits .xor .u8 (rd a ((i / 8 : Nat) : Int)) (rd b ((i / 8 : Nat) : Int))) (shr .u8 128 ((i % 8 : Nat) : Int)) = 0) ↔ bitAt a i = bitAt b i := by
  rw [bitAt_eq a i hi, bitAt_eq b i (by omega)]
  have h1 : i / 8 < a.length := by omega
  have h2 : i / 8 < b.length := by omega
  have ra := ha (a[i / 8]) (List.getElem_mem h1)
  have rb := hb (b[i / 8]) (List.getElem_mem h2)
  have ea : rd a ((i / 8 : Nat) : Int) = a[i / 8] := rd_nat a _ h1
  have eb : rd b ((i / 8 : Nat) : Int) = b[i / 8] := rd_nat b _ h2
  have ga : a.getD (i / 8) 0 = a[i / 8] := by simp [h1]
  have gb : b.getD (i / 8) 0 = b[i / 8] := by simp [h2]
  rw [ea, eb, ga, gb]
  have hs : shr .u8 128 ((i % 8 : Nat) : Int) = 128 / 2 ^ (i % 8) := by
    unfold shr
    have : min ((i % 8 : Nat) : Int).toNat IntKind.u8.bits = i % 8 := by simp [IntKind.bits]; omega
    rw [this]
  rw [hs]
  obtain ⟨x, hx⟩ := Int.eq_ofNat_of_zero_le ra.1
  obtain ⟨y, hy⟩ := Int.eq_ofNat_of_zero_le rb.1
  have := byte_bits ⟨x, by omega⟩ ⟨y, by omega⟩ ⟨i % 8, by omega⟩
  rw [hx, hy]
  simpa using this
/-- What is known of the first and the last bit that is unlike, of the first i. -/
def Seen (a b : List Int) (i : Nat) (f l : Int) : Prop :=
  (f = -1 ∧ l = -1 ∧ ∀ j, j < i → bitAt a j = bitAt b j) ∨ (∃ p q : Nat, f = p ∧ l = q ∧ p ≤ q ∧ q < i ∧ (bitAt a p ≠ bitAt b p ∧ bitAt a q ≠ bitAt b q) ∧ ∀ j, j < i → bitAt a j ≠ bitAt b j → p ≤ j ∧ j ≤ q)
/-- How far apart. -/
def Far (a b : List Int) (r : Int) : Prop := (r = 0 ∧ ∀ j, j < 8 * a.length → bitAt a j = bitAt b j) ∨ (∃ p q : Nat, p ≤ q ∧ q < 8 * a.length ∧ r = (q : Int) - p + 1 ∧ (bitAt a p ≠ bitAt b p ∧ bitAt a q ≠ bitAt b q) ∧ ∀ j, j < 8 * a.length → bitAt a j ≠ bitAt b j → p ≤ j ∧ j ≤ q)
theorem unlike_loop (a b : List Int) (ha : Bytes a) (hb : Bytes b) (hl : a.length = b.length) (hlen : a.length < 140737488355328) (d : Nat) : ∀ (i : Nat) (f l : Int), i + d = 8 * a.length → Seen a b i f l → ∃ r, Far a b r ∧ Ev (fun k => bend_Unlike.l0 k a b f l (8 * (a.length : Int)) (i : Int)) r := by
  induction d with
  | zero =>
    intro i f l hi hs
    obtain rfl : i = 8 * a.length := by omega
    rcases hs with ⟨rfl, rfl, h⟩ | ⟨p, q, rfl, rfl, hpq, hq, hp, h⟩
    · refine ⟨0, .inl ⟨rfl, h⟩, Ev.step (fun k => by simp only [bend_Unlike.l0]; rw [if_neg (by omega), if_pos (by decide)]) (Ev.now _)⟩
    · refine ⟨(q : Int) - p + 1, .inr ⟨p, q, hpq, hq, rfl, hp, h⟩, Ev.step (fun k => by simp only [bend_Unlike.l0]; rw [if_neg (by omega), if_neg (by omega)]) ?_⟩
      have w1 : wrap64 ((q : Int) - p) = (q : Int) - p := wrap_id (by omega) (by omega)
      have w2 : wrap64 ((q : Int) - p + 1) = (q : Int) - p + 1 := wrap_id (by omega) (by omega)
      rw [w1, w2]
      exact Ev.now _
  | succ d ih =>
    intro i f l hi hs
    have hlt : i < 8 * a.length := by omega
    have hw : wrap64 ((i : Int) + 1) = ((i + 1 : Nat) : Int) := wrap_nat (by omega)
    have hd : wrap64 (Int.tdiv (i : Int) 8) = ((i / 8 : Nat) : Int) := by
      rw [Int.tdiv_eq_ediv_of_nonneg (by omega), wrap_id (by omega) (by omega)]; omega
    have hm : Int.tmod (i : Int) 8 = ((i % 8 : Nat) : Int) := by
      rw [Int.tmod_eq_emod_of_nonneg (by omega)]; omega
    have ht := unlike_test a b ha hb hl i hlt
    have st : ∀ {r : Int} {g : Nat → Option Int}, (∀ k, g k = (if Go.bits .and .u8 (Go.bits .xor .u8 (rd a ((i / 8 : Nat) : Int)) (rd b ((i / 8 : Nat) : Int))) (shr .u8 128 ((i % 8 : Nat) : Int)) = 0 then bend_Unlike.l0 k a b f l (8 * (a.length : Int)) ((i + 1 : Nat) : Int) else (if f < 0 then bend_Unlike.l0 k a b (i : Int) (i : Int) (8 * (a.length : Int)) ((i + 1 : Nat) : Int) else bend_Unlike.l0 k a b f (i : Int) (8 * (a.length : Int)) ((i + 1 : Nat) : Int)))) → Ev g r → Ev (fun k => bend_Unlike.l0 k a b f l (8 * (a.length : Int)) (i : Int)) r := fun {r g} hg h => by
      refine Ev.step (f := g) (fun k => ?_) h
      rw [hg k]
      simp only [bend_Unlike.l0]
      rw [if_pos (by omega), hd, hm, hw, if_pos (by omega), if_pos (by omega), if_pos (by omega), if_pos (by omega)]
    by_cases hsame : bitAt a i = bitAt b i
    · have hs' : Seen a b (i + 1) f l := by
        rcases hs with ⟨rfl, rfl, h⟩ | ⟨p, q, rfl, rfl, hpq, hq, hp, h⟩
        · refine .inl ⟨rfl, rfl, fun j hj => ?_⟩
          by_cases hji : j = i
          · rw [hji]; exact hsame
          · exact h j (by omega)
        · refine .inr ⟨p, q, rfl, rfl, hpq, by omega, hp, fun j hj hne => ?_⟩
          by_cases hji : j = i
          · rw [hji] at hne; exact absurd hsame hne
          · exact h j (by omega) hne
      obtain ⟨r, hf, hr⟩ := ih (i + 1) f l (by omega) hs'
      exact ⟨r, hf, st (fun k => rfl) (Ev.pos (ht.2 hsame) hr)⟩
    · rcases hs with ⟨rfl, rfl, h⟩ | ⟨p, q, rfl, rfl, hpq, hq, hp, h⟩
      · have hs' : Seen a b (i + 1) (i : Int) (i : Int) := .inr ⟨i, i, rfl, rfl, Nat.le_refl _, by omega, ⟨hsame, hsame⟩, fun j hj hne => by
          by_cases hji : j = i
          · omega
          · exact absurd (h j (by omega)) hne⟩
        obtain ⟨r, hf, hr⟩ := ih (i + 1) i i (by omega) hs'
        exact ⟨r, hf, st (fun k => rfl) (Ev.neg (fun h => hsame (ht.1 h)) (Ev.pos (by decide) hr))⟩
      · have hs' : Seen a b (i + 1) (p : Int) (i : Int) := .inr ⟨p, i, rfl, rfl, by omega, by omega, ⟨hp.1, hsame⟩, fun j hj hne => by
          by_cases hji : j = i
          · omega
          · have := h j (by omega) hne; omega⟩
        obtain ⟨r, hf, hr⟩ := ih (i + 1) p i (by omega) hs'
        exact ⟨r, hf, st (fun k => rfl) (Ev.neg (fun h => hsame (ht.1 h)) (Ev.neg (by omega) hr))⟩
theorem unlike_ev (a b : List Int) (ha : Bytes a) (hb : Bytes b) (hlen : a.length < 140737488355328) : ∃ r, (if a.length = b.length then Far a b r else r = -1) ∧ Ev (fun k => bend_Unlike.f k a b) r := by
  unfold bend_Unlike.f
  by_cases hl : a.length = b.length
  · have hw : wrap64 (8 * (a.length : Int)) = 8 * (a.length : Int) := wrap_id (by omega) (by omega)
    obtain ⟨r, hf, hr⟩ := unlike_loop a b ha hb hl hlen (8 * a.length) 0 (-1) (-1) (by omega) (.inl ⟨rfl, rfl, fun j hj => by omega⟩)
    refine ⟨r, by rw [if_pos hl]; exact hf, Ev.pos (by omega) ?_⟩
    rw [hw]
    exact hr
  · exact ⟨-1, by rw [if_neg hl], Ev.neg (by omega) (Ev.now _)⟩
theorem bits_inj {a b : List Int} (ha : Bytes a) (hb : Bytes b) (hl : a.length = b.length) (h : ∀ j, j < 8 * a.length → bitAt a j = bitAt b j) : a = b := by
  apply List.ext_getElem hl
  intro i h1 h2
  have ra := ha a[i] (List.getElem_mem h1)
  have rb := hb b[i] (List.getElem_mem h2)
  have key : a[i].toNat = b[i].toNat := by
    apply Nat.eq_of_testBit_eq
    intro m
    by_cases hm : m < 8
    · have := h (8 * i + (7 - m)) (by omega)
      rw [bitAt_eq a _ (by omega), bitAt_eq b _ (by omega)] at this
      have e1 : (8 * i + (7 - m)) / 8 = i := by omega
      have e2 : 7 - (8 * i + (7 - m)) % 8 = m := by omega
      rw [e1, e2] at this
      simpa [h1, h2] using this
    · have hp : 2 ^ 8 ≤ 2 ^ m := Nat.pow_le_pow_right (by decide) (by omega)
      rw [Nat.testBit_lt_two_pow (by omega), Nat.testBit_lt_two_pow (by omega)]
  omega
/-- Sealed bytes that are not alike are unlike in more than 32 bits in a row. -/
theorem far_sealed {c d : List Int} {r : Int} (hc : Bytes c) (hd : Bytes d) (hl : c.length = d.length) (h : Far (sealed c) (sealed d) r) : (r = 0 ↔ c = d) ∧ (r ≤ 0 ∨ r > 32) := by
  have hls : (sealed c).length = (sealed d).length := by rw [sealed_length, sealed_length, hl]
  rcases h with ⟨rfl, h⟩ | ⟨p, q, hpq, hq, rfl, hp, h⟩
  · exact ⟨⟨fun _ => sealed_inj (bits_inj (sealed_bytes hc) (sealed_bytes hd) hls h), fun _ => rfl⟩, .inl (Int.le_refl _)⟩
  · refine ⟨⟨fun h0 => by omega, fun e => by subst e; exact absurd rfl hp.1⟩, ?_⟩
    by_cases h32 : (q : Int) - p + 1 > 32
    · exact .inr h32
    · exfalso
      have b1 := bitsOf_length (sealed c)
      have b2 := bitsOf_length (sealed d)
      have split : ∀ l : List Bool, q < l.length → l = l.take p ++ (l.drop p).take (q + 1 - p) ++ l.drop (q + 1) := fun l hq' => by
        have e : l.drop (q + 1) = (l.drop p).drop (q + 1 - p) := by rw [List.drop_drop]; congr 1; omega
        rw [List.append_assoc, e, List.take_append_drop, List.take_append_drop]
      have same : ∀ j, j < 8 * (sealed c).length → (j < p ∨ q < j) → (bitsOf (sealed c)).getD j false = (bitsOf (sealed d)).getD j false := fun j hj hjp => by
        by_cases hne : bitAt (sealed c) j = bitAt (sealed d) j
        · exact hne
        · have := h j hj hne; omega
      have et : (bitsOf (sealed c)).take p = (bitsOf (sealed d)).take p := by
        apply List.ext_getElem (by simp only [List.length_take]; omega)
        intro i h1 h2
        simp only [List.length_take] at h1 h2
        have := same i (by omega) (.inl (by omega))
        simp only [List.getElem_take]
        have g1 : i < (bitsOf (sealed c)).length := by omega
        have g2 : i < (bitsOf (sealed d)).length := by omega
        simpa [g1, g2] using this
      have ed : (bitsOf (sealed c)).drop (q + 1) = (bitsOf (sealed d)).drop (q + 1) := by
        apply List.ext_getElem (by simp only [List.length_drop]; omega)
        intro i h1 h2
        simp only [List.length_drop] at h1 h2
        have := same (q + 1 + i) (by omega) (.inr (by omega))
        simp only [List.getElem_drop]
        have g1 : q + 1 + i < (bitsOf (sealed c)).length := by omega
        have g2 : q + 1 + i < (bitsOf (sealed d)).length := by omega
        simpa [g1, g2] using this
      have hne : ((bitsOf (sealed c)).drop p).take (q + 1 - p) ≠ ((bitsOf (sealed d)).drop p).take (q + 1 - p) := fun e => by
        apply hp.1
        have g1 : p < (bitsOf (sealed c)).length := by omega
        have g2 : p < (bitsOf (sealed d)).length := by omega
        have hz := congrArg (fun l => l.getD 0 false) e
        have : (bitsOf (sealed c)).getD p false = (bitsOf (sealed d)).getD p false := by
          have k1 : 0 < q + 1 - p := by omega
          simp only [List.getD_eq_getElem?_getD, List.getElem?_take, k1, if_true, List.getElem?_drop, Nat.add_zero] at hz
          simpa [List.getD_eq_getElem?_getD] using hz
        exact this
      have hb := burst 0xFFFFFFFF#32 ((bitsOf (sealed c)).take p) (z := (bitsOf (sealed c)).drop (q + 1)) (p := ((bitsOf (sealed c)).drop p).take (q + 1 - p)) (q := ((bitsOf (sealed d)).drop p).take (q + 1 - p)) (by simp only [List.length_take, List.length_drop]; omega) (by simp only [List.length_take, List.length_drop]; omega) hne
      apply hb
      rw [← split _ (by omega)]
      rw [et, ed, ← split _ (by omega), sealed_R c hc, sealed_R d hd]
theorem reads_ev (b : List Int) (hb : Bytes b) : Ev (fun k => bend_Reads.f k b) (decide ((decV b).2.2.2.2.2 = 0)) := by
  unfold bend_Reads.f
  refine Ev.bind (decode_ev b hb) ?_
  refine Ev.answered ?_
  congr 1
theorem awake_ev : Ev (fun k => withylaw04_awake.f k) true := by
  unfold withylaw04_awake.f
  have h1 : Ev (fun k => bend_Burst.f k [0] 4 2147483648) [8] := Ev.of (fun k => bend_Burst.mono _ _ _ k) (k := 40) (by decide +kernel)
  have h2 : Ev (fun k => bend_Unlike.f k [8] [0]) 1 := Ev.of (fun k => bend_Unlike.mono _ _ k) (k := 12) (by decide +kernel)
  have reads : ∀ (b : List Int), Bytes b → Ev (fun k => bend_Reads.f k b) (decide ((decV b).2.2.2.2.2 = 0)) := fun b hb => by
    unfold bend_Reads.f
    refine Ev.bind (decode_ev b hb) ?_
    refine Ev.answered ?_
    congr 1
  refine Ev.bind h1 ?_
  refine Ev.pos (by decide) (Ev.pos (by decide) (Ev.pos (by decide) ?_))
  refine Ev.bind h2 ?_
  refine Ev.pos (by decide) ?_
  refine Ev.bind (reads [8] (by decide)) ?_
  refine Ev.neg (by decide) ?_
  have hm : FMay 1 0 0 0 [] := by decide
  have hb : Bytes ([] : List Int) := fun _ h => by cases h
  refine Ev.bind (ref_bytes_ev 1 0 0 0 [] hm hb) ?_
  refine Ev.bind (reads _ (sealed_bytes (body_bytes hb))) ?_
  rw [decV_enc hm]
  exact Ev.now _
theorem fin_ev : Ev (fun k => (withylaw04_awake.f k).bind fun t => some t) true := Ev.bind awake_ev (Ev.now _)
theorem rreads_ev (b : List Int) (hb : Bytes b) : Ev (fun k => withyref04_Reads.f k b) (decide ((decV b).2.2.2.2.2 = 0)) := by
  unfold withyref04_Reads.f
  refine Ev.bind (ref_decode_ev b hb) ?_
  refine Ev.answered ?_
  congr 1
theorem far_unique {a b : List Int} {r r' : Int} (h : Far a b r) (h' : Far a b r') : r = r' := by
  rcases h with ⟨rfl, h⟩ | ⟨p, q, hpq, hq, rfl, hp, h⟩
  · rcases h' with ⟨rfl, h'⟩ | ⟨p', q', hpq', hq', rfl, hp', h'⟩
    · rfl
    · exact absurd (h p' (by omega)) hp'.1
  · rcases h' with ⟨rfl, h'⟩ | ⟨p', q', hpq', hq', rfl, hp', h'⟩
    · exact absurd (h' p (by omega)) hp.1
    · have e1 := h p' (by omega) hp'.1
      have e2 := h q' (by omega) hp'.2
      have e3 := h' p (by omega) hp.1
      have e4 := h' q (by omega) hp.2
      omega
/-- The first m bits, as numbers. -/
def IsBits (a X : List Int) (m : Nat) : Prop := X.length = m ∧ ∀ j, j < m → rd X (j : Int) = if bitAt a j then 1 else 0
theorem rbit : ∀ (v : Fin 256) (s : Fin 8), Int.tmod (shr .i64 (wrap64 ((v.val : Nat) : Int)) (IntKind.u64.wrap ((s.val : Nat) : Int))) 2 = if v.val.testBit s.val then 1 else 0 := by decide +kernel
theorem isBits_snoc {a X : List Int} {m : Nat} {e : Int} (h : IsBits a X m) (he : e = if bitAt a m then 1 else 0) : IsBits a (X ++ [e]) (m + 1) := by
  refine ⟨by rw [List.length_append, h.1]; rfl, fun j hj => ?_⟩
  have hx := h.1
  have hlt : j < (X ++ [e]).length := by rw [List.length_append, h.1]; simpa using hj
  rw [rd_nat _ _ hlt]
  by_cases hjm : j < m
  · have := h.2 j hjm
    rw [rd_nat _ _ (by omega)] at this
    rw [List.getElem_append_left (by omega)]
    exact this
  · have hjx : j = X.length := by omega
    have hjm2 : j = m := by omega
    rw [List.getElem_append_right (by omega)]
    simp only [hjx, Nat.sub_self, List.getElem_cons_zero]
    rw [he, hx]
theorem rbits_in (a : List Int) (ha : Bytes a) (hlen : a.length ≤ 3000) (i : Nat) (hi : i < a.length) : ∀ (m : Nat) (X : List Int), m ≤ 8 → IsBits a X (8 * i + (8 - m)) → ∃ Y, IsBits a Y (8 * (i + 1)) ∧ ∀ r, Ev (fun k => withyref04_bits.l0 k a Y ((i + 1 : Nat) : Int)) r → Ev (fun k => withyref04_bits.l1 k a X (i : Int) ((m : Int) - 1)) r := by
  intro m
  induction m with
  | zero =>
    intro X _ hX
    refine ⟨X, by simpa [Nat.mul_add] using hX, fun r h => Ev.step (f := fun k => _) (fun k => by simp only [withyref04_bits.l1]; rw [if_neg (by omega), wrap_nat (i := i) (by omega)]) h⟩
  | succ m ih =>
    intro X hm hX
    have hv := ha a[i] (List.getElem_mem hi)
    obtain ⟨v, hv2⟩ := Int.eq_ofNat_of_zero_le hv.1
    have hb : bitAt a (8 * i + (8 - (m + 1))) = v.testBit m := by
      rw [bitAt_eq a _ (by omega)]
      have e1 : (8 * i + (8 - (m + 1))) / 8 = i := by omega
      have e2 : 7 - (8 * i + (8 - (m + 1))) % 8 = m := by omega
      rw [e1, e2]
      have : a.getD i 0 = a[i] := by simp [hi]
      rw [this, hv2]; rfl
    have he : Int.tmod (shr .i64 (wrap64 (rd a (i : Int))) (IntKind.u64.wrap ((m : Nat) : Int))) 2 = if bitAt a (8 * i + (8 - (m + 1))) then 1 else 0 := by
      rw [rd_nat a i hi, hv2, hb]
      exact rbit ⟨v, by omega⟩ ⟨m, by omega⟩
    have hX2 := isBits_snoc hX he
    have e8 : 8 * i + (8 - (m + 1)) + 1 = 8 * i + (8 - m) := by omega
    rw [e8] at hX2
    obtain ⟨Y, hY, go⟩ := ih _ (by omega) hX2
    refine ⟨Y, hY, fun r h => Ev.step (f := fun k => _) (fun k => ?_) (go r h)⟩
    have e0 : ((m + 1 : Nat) : Int) - 1 = (m : Int) := by omega
    have ew : wrap64 ((m : Int) - 1) = (m : Int) - 1 := wrap_id (by omega) (by omega)
    have eu : 0 ≤ IntKind.u64.wrap ((m : Nat) : Int) := by
      have : IntKind.u64.wrap ((m : Nat) : Int) = (m : Int) := by
        have hm7 : m = 0 ∨ m = 1 ∨ m = 2 ∨ m = 3 ∨ m = 4 ∨ m = 5 ∨ m = 6 ∨ m = 7 := by omega
        rcases hm7 with rfl | rfl | rfl | rfl | rfl | rfl | rfl | rfl <;> decide +kernel
      omega
    have hxl := hX.1
    rw [e0]
    simp only [withyref04_bits.l1]
    rw [if_pos (by omega), if_pos (by omega), if_pos (by omega), if_pos eu, if_pos (by omega), ew]
theorem rbits_out (a : List Int) (ha : Bytes a) (hlen : a.length ≤ 3000) : ∀ (d i : Nat) (X : List Int), i + d = a.length → IsBits a X (8 * i) → ∃ Y, IsBits a Y (8 * a.length) ∧ Ev (fun k => withyref04_bits.l0 k a X (i : Int)) Y := by
  intro d
  induction d with
  | zero =>
    intro i X hi hX
    obtain rfl : i = a.length := by omega
    exact ⟨X, hX, Ev.step (fun k => by simp only [withyref04_bits.l0]; rw [if_neg (by omega)]) (Ev.now _)⟩
  | succ d ih =>
    intro i X hi hX
    obtain ⟨Y, hY, go⟩ := rbits_in a ha hlen i (by omega) 8 X (by omega) (by simpa using hX)
    obtain ⟨Z, hZ, he⟩ := ih (i + 1) Y (by omega) hY
    have e7 : ((8 : Nat) : Int) - 1 = 7 := by decide
    rw [e7] at go
    exact ⟨Z, hZ, Ev.step (f := fun k => _) (fun k => by simp only [withyref04_bits.l0]; rw [if_pos (by omega)]) (go Z he)⟩
theorem rbits_ev (a : List Int) (ha : Bytes a) (hlen : a.length ≤ 3000) : ∃ X, IsBits a X (8 * a.length) ∧ Ev (fun k => withyref04_bits.f k a) X := by
  unfold withyref04_bits.f
  exact rbits_out a ha hlen a.length 0 [] (by omega) ⟨rfl, fun j hj => by omega⟩
theorem bits_same {a b X Y : List Int} {m j : Nat} (hX : IsBits a X m) (hY : IsBits b Y m) (h : j < m) : (rd X (j : Int) = rd Y (j : Int)) ↔ bitAt a j = bitAt b j := by
  rw [hX.2 j h, hY.2 j h]
  cases bitAt a j <;> cases bitAt b j <;> simp
theorem rback (a b X Y : List Int) (hlen : a.length ≤ 3000) (hX : IsBits a X (8 * a.length)) (hY : IsBits b Y (8 * a.length)) (p : Nat) (hp : bitAt a p ≠ bitAt b p) (hb : ∀ j, j < p → bitAt a j = bitAt b j) : ∀ (e : Nat), p + 1 + e ≤ 8 * a.length → (∀ j, p + 1 + e ≤ j → j < 8 * a.length → bitAt a j = bitAt b j) → ∃ r, Far a b r ∧ Ev (fun k => withyref04_Unlike.l1 k X Y (p : Int) ((p + 1 + e : Nat) : Int)) r := by
  intro e
  induction e with
  | zero =>
    intro hle hup
    have w1 : wrap64 (((p + 1 + 0 : Nat) : Int) - 1) = (p : Int) := by rw [wrap_id (by omega) (by omega)]; omega
    have w2 : wrap64 (((p + 1 + 0 : Nat) : Int) - (p : Int)) = (p : Int) - p + 1 := by rw [wrap_id (by omega) (by omega)]; omega
    refine ⟨(p : Int) - p + 1, .inr ⟨p, p, Nat.le_refl _, by omega, rfl, ⟨hp, hp⟩, fun j hj hne => ?_⟩, Ev.step (fun k => ?_) (Ev.now _)⟩
    · refine ⟨?_, ?_⟩
      · by_cases h : j < p
        · exact absurd (hb j h) hne
        · omega
      · by_cases h : p + 1 ≤ j
        · exact absurd (hup j (by omega) hj) hne
        · omega
    · have hs := bits_same hX hY (j := p) (by omega)
      have x1 := hX.1
      have y1 := hY.1
      simp only [withyref04_Unlike.l1]
      rw [if_pos (by omega), w1, if_pos (by omega), if_pos (by omega), if_pos (by omega), if_neg (fun h => hp (hs.1 h)), w2]
  | succ e ih =>
    intro hle hup
    have w1 : wrap64 (((p + 1 + (e + 1) : Nat) : Int) - 1) = ((p + 1 + e : Nat) : Int) := by rw [wrap_id (by omega) (by omega)]; omega
    have w2 : wrap64 (((p + 1 + (e + 1) : Nat) : Int) - (p : Int)) = ((p + 1 + e : Nat) : Int) - p + 1 := by rw [wrap_id (by omega) (by omega)]; omega
    have hs := bits_same hX hY (j := p + 1 + e) (by omega)
    have x1 := hX.1
    have y1 := hY.1
    by_cases hq : bitAt a (p + 1 + e) = bitAt b (p + 1 + e)
    · obtain ⟨r, hr, he⟩ := ih (by omega) (fun j h1 h2 => by
        by_cases h : j = p + 1 + e
        · rw [h]; exact hq
        · exact hup j (by omega) h2)
      refine ⟨r, hr, Ev.step (f := fun k => _) (fun k => ?_) he⟩
      simp only [withyref04_Unlike.l1]
      rw [if_pos (by omega), w1, if_pos (by omega), if_pos (by omega), if_pos (by omega), if_pos (hs.2 hq)]
    · refine ⟨((p + 1 + e : Nat) : Int) - p + 1, .inr ⟨p, p + 1 + e, by omega, by omega, rfl, ⟨hp, hq⟩, fun j hj hne => ?_⟩, Ev.step (fun k => ?_) (Ev.now _)⟩
      · refine ⟨?_, ?_⟩
        · by_cases h : j < p
          · exact absurd (hb j h) hne
          · omega
        · by_cases h : p + 1 + (e + 1) ≤ j
          · exact absurd (hup j (by omega) hj) hne
          · omega
      · simp only [withyref04_Unlike.l1]
        rw [if_pos (by omega), w1, if_pos (by omega), if_pos (by omega), if_pos (by omega), if_neg (fun h => hq (hs.1 h)), w2]
theorem rfront (a b X Y : List Int) (hlen : a.length ≤ 3000) (hX : IsBits a X (8 * a.length)) (hY : IsBits b Y (8 * a.length)) : ∀ (d p : Nat), p + d = 8 * a.length → (∀ j, j < p → bitAt a j = bitAt b j) → ∃ r, Far a b r ∧ Ev (fun k => withyref04_Unlike.l0 k X Y (p : Int) ((8 * a.length : Nat) : Int)) r := by
  intro d
  induction d with
  | zero =>
    intro p hp hb
    obtain rfl : p = 8 * a.length := by omega
    refine ⟨0, .inl ⟨rfl, hb⟩, ?_⟩
    have w2 : wrap64 (((8 * a.length : Nat) : Int) - ((8 * a.length : Nat) : Int)) = 0 := by rw [wrap_id (by omega) (by omega)]; omega
    refine Ev.step (f := fun k => withyref04_Unlike.j1 k X Y ((8 * a.length : Nat) : Int) ((8 * a.length : Nat) : Int)) (fun k => by simp only [withyref04_Unlike.l0]; rw [if_neg (by omega)]) ?_
    refine Ev.step (f := fun k => withyref04_Unlike.l1 k X Y ((8 * a.length : Nat) : Int) ((8 * a.length : Nat) : Int)) (fun k => by simp only [withyref04_Unlike.j1]) ?_
    exact Ev.step (fun k => by simp only [withyref04_Unlike.l1]; rw [if_neg (by omega), w2]) (Ev.now _)
  | succ d ih =>
    intro p hp hb
    have hs := bits_same hX hY (j := p) (by omega)
    have x1 := hX.1
    have y1 := hY.1
    by_cases hq : bitAt a p = bitAt b p
    · obtain ⟨r, hr, he⟩ := ih (p + 1) (by omega) (fun j h1 => by
        by_cases h : j = p
        · rw [h]; exact hq
        · exact hb j (by omega))
      have hw : wrap64 ((p : Int) + 1) = ((p + 1 : Nat) : Int) := wrap_nat (by omega)
      refine ⟨r, hr, Ev.step (f := fun k => _) (fun k => ?_) he⟩
      simp only [withyref04_Unlike.l0]
      rw [if_pos (by omega), if_pos (by omega), if_pos (by omega), if_pos (by omega), if_pos (hs.2 hq), hw]
    · obtain ⟨r, hr, he⟩ := rback a b X Y hlen hX hY p hq hb (8 * a.length - (p + 1)) (by omega) (fun j h1 h2 => by omega)
      have e1 : p + 1 + (8 * a.length - (p + 1)) = 8 * a.length := by omega
      rw [e1] at he
      refine ⟨r, hr, Ev.step (f := fun k => withyref04_Unlike.j1 k X Y (p : Int) ((8 * a.length : Nat) : Int)) (fun k => ?_) (Ev.step (fun k => by simp only [withyref04_Unlike.j1]) he)⟩
      simp only [withyref04_Unlike.l0]
      rw [if_pos (by omega), if_pos (by omega), if_pos (by omega), if_pos (by omega), if_neg (fun h => hq (hs.1 h))]
theorem runlike_ev (a b : List Int) (ha : Bytes a) (hb : Bytes b) (hlen : a.length ≤ 3000) : ∃ r, (if a.length = b.length then Far a b r else r = -1) ∧ Ev (fun k => withyref04_Unlike.f k a b) r := by
  unfold withyref04_Unlike.f
  by_cases hl : a.length = b.length
  · obtain ⟨X, hX, hx⟩ := rbits_ev a ha hlen
    obtain ⟨Y, hY, hy⟩ := rbits_ev b hb (by omega)
    rw [← hl] at hY
    obtain ⟨r, hr, he⟩ := rfront a b X Y hlen hX hY (8 * a.length) 0 (by omega) (fun j h => by omega)
    refine ⟨r, by rw [if_pos hl]; exact hr, Ev.pos (by omega) ?_⟩
    refine Ev.bind hx ?_
    refine Ev.bind hy ?_
    rw [hX.1]
    exact he
  · exact ⟨-1, by rw [if_neg hl], Ev.neg (by omega) (Ev.now _)⟩
end Go.Proofs.Ytedpjakmlniodaa.PBendUnlike
