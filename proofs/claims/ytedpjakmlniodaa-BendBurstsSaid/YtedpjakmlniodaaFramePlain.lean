/- The plain mathematics of a frame's bytes: which frames there may be, the bytes of each, and the one frame that bytes are. No program in sight. -/
import Derived.Test.YtedpjakmlniodaaOctPlain
set_option linter.unusedVariables false
set_option linter.unusedSimpArgs false
namespace Go.Proofs.Ytedpjakmlniodaa.FramePlain
open Go.RowKit Go.Proofs.YtedpjakmlniodaaW.PrintWords Go.Proofs.Ytedpjakmlniodaa.EvLib Go.Proofs.Ytedpjakmlniodaa.OctPlain

/-- May a frame be? -/
abbrev FMay (k s q a : Int) (p : List Int) : Prop := (1 ≤ k ∧ k < 6) ∧ (0 ≤ s ∧ s ≤ 2147483647) ∧ (0 ≤ q ∧ q ≤ 2147483647) ∧ (0 ≤ a ∧ a ≤ 2147483647) ∧ p.length ≤ 16384 ∧ (k = 3 ∨ p.length = 0)
/-- Its bytes, without their sum. -/
def head (n k s q a : Int) : List Int := num n 2 ++ (num k 1 ++ (num s 4 ++ (num q 4 ++ num a 4)))
def body (k s q a : Int) (p : List Int) : List Int := head (p.length : Int) k s q a ++ p
theorem head_length (n k s q a : Int) : (head n k s q a).length = 15 := by
  have h2 := num_length (n := n) (w := 2) (by decide) (by decide)
  have h1 := num_length (n := k) (w := 1) (by decide) (by decide)
  have hs := num_length (n := s) (w := 4) (by decide) (by decide)
  have hq := num_length (n := q) (w := 4) (by decide) (by decide)
  have ha := num_length (n := a) (w := 4) (by decide) (by decide)
  simp only [head, List.length_append]
  omega
theorem body_length (k s q a : Int) (p : List Int) : (body k s q a p).length = 15 + p.length := by rw [body, List.length_append, head_length]
theorem body_bytes {k s q a : Int} {p : List Int} (h : Bytes p) : Bytes (body k s q a p) :=
  Bytes.append ((num_bytes _ _).append ((num_bytes _ _).append ((num_bytes _ _).append ((num_bytes _ _).append (num_bytes _ _))))) h
/-- The frame that bytes are, if they are one's. -/
def parse (c : List Int) : Option (Int × Int × Int × Int × List Int) :=
  match takeV c 0 2 with
  | (n, l1, e1) => match takeV l1 e1 1 with
    | (k, l2, e2) => match takeV l2 e2 4 with
      | (s, l3, e3) => match takeV l3 e3 4 with
        | (q, l4, e4) => match takeV l4 e4 4 with
          | (a, l5, e5) => if e5 = 0 ∧ (l5.length : Int) = n ∧ FMay k s q a l5 then some (k, s, q, a, l5) else none
theorem parse_eq {c l1 l2 l3 l4 l5 : List Int} {n k s q a e1 e2 e3 e4 e5 : Int} (h1 : takeV c 0 2 = (n, l1, e1)) (h2 : takeV l1 e1 1 = (k, l2, e2)) (h3 : takeV l2 e2 4 = (s, l3, e3)) (h4 : takeV l3 e3 4 = (q, l4, e4)) (h5 : takeV l4 e4 4 = (a, l5, e5)) :
    parse c = if e5 = 0 ∧ (l5.length : Int) = n ∧ FMay k s q a l5 then some (k, s, q, a, l5) else none := by
  unfold parse
  rw [h1]; dsimp only
  rw [h2]; dsimp only
  rw [h3]; dsimp only
  rw [h4]; dsimp only
  rw [h5]
theorem takes_inv {c l1 l2 l3 l4 l5 : List Int} {n k s q a e1 e2 e3 e4 : Int} (hc : Bytes c) (h1 : takeV c 0 2 = (n, l1, e1)) (h2 : takeV l1 e1 1 = (k, l2, e2)) (h3 : takeV l2 e2 4 = (s, l3, e3)) (h4 : takeV l3 e3 4 = (q, l4, e4)) (h5 : takeV l4 e4 4 = (a, l5, 0)) :
    c = head n k s q a ++ l5 ∧ (0 ≤ n ∧ n ≤ 65535) ∧ (0 ≤ k ∧ k ≤ 255) ∧ (0 ≤ s ∧ s ≤ 2147483647) ∧ (0 ≤ q ∧ q ≤ 2147483647) ∧ (0 ≤ a ∧ a ≤ 2147483647) := by
  have b1 := takeV_bytes c 0 2 hc
  rw [h1] at b1
  have b2 := takeV_bytes l1 e1 1 b1
  rw [h2] at b2
  have b3 := takeV_bytes l2 e2 4 b2
  rw [h3] at b3
  have b4 := takeV_bytes l3 e3 4 b3
  rw [h4] at b4
  have i5 := takeV_inv l4 e4 4 b4 (by decide) (by decide) (by rw [h5])
  rw [h5] at i5
  obtain ⟨rfl, i5, v5⟩ := i5
  have i4 := takeV_inv l3 e3 4 b3 (by decide) (by decide) (by rw [h4])
  rw [h4] at i4
  obtain ⟨rfl, i4, v4⟩ := i4
  have i3 := takeV_inv l2 e2 4 b2 (by decide) (by decide) (by rw [h3])
  rw [h3] at i3
  obtain ⟨rfl, i3, v3⟩ := i3
  have i2 := takeV_inv l1 e1 1 b1 (by decide) (by decide) (by rw [h2])
  rw [h2] at i2
  obtain ⟨rfl, i2, v2⟩ := i2
  have i1 := takeV_inv c 0 2 hc (by decide) (by decide) (by rw [h1])
  rw [h1] at i1
  obtain ⟨_, i1, v1⟩ := i1
  simp only [topV] at v1 v2 v3 v4 v5
  refine ⟨?_, by simpa using v1, by simpa using v2, by simpa using v3, by simpa using v4, by simpa using v5⟩
  rw [i1, i2, i3, i4, i5]
  simp [head]
theorem parse_some {c : List Int} {k s q a : Int} {p : List Int} (hc : Bytes c) (h : parse c = some (k, s, q, a, p)) : c = body k s q a p ∧ FMay k s q a p := by
  obtain ⟨⟨n, l1, e1⟩, h1⟩ : ∃ r, takeV c 0 2 = r := ⟨_, rfl⟩
  obtain ⟨⟨k', l2, e2⟩, h2⟩ : ∃ r, takeV l1 e1 1 = r := ⟨_, rfl⟩
  obtain ⟨⟨s', l3, e3⟩, h3⟩ : ∃ r, takeV l2 e2 4 = r := ⟨_, rfl⟩
  obtain ⟨⟨q', l4, e4⟩, h4⟩ : ∃ r, takeV l3 e3 4 = r := ⟨_, rfl⟩
  obtain ⟨⟨a', l5, e5⟩, h5⟩ : ∃ r, takeV l4 e4 4 = r := ⟨_, rfl⟩
  rw [parse_eq h1 h2 h3 h4 h5] at h
  by_cases hd : e5 = 0 ∧ (l5.length : Int) = n ∧ FMay k' s' q' a' l5
  · rw [if_pos hd] at h
    simp only [Option.some.injEq, Prod.mk.injEq] at h
    obtain ⟨rfl, rfl, rfl, rfl, rfl⟩ := h
    obtain ⟨rfl, hn, hm⟩ := hd
    have := (takes_inv hc h1 h2 h3 h4 h5).1
    exact ⟨by rw [this, body, hn], hm⟩
  · rw [if_neg hd] at h; cases h
theorem takes_head {n k s q a : Int} {p : List Int} (hn : 0 ≤ n ∧ n ≤ 65535) (hk : 0 ≤ k ∧ k ≤ 255) (hs : 0 ≤ s ∧ s ≤ 2147483647) (hq : 0 ≤ q ∧ q ≤ 2147483647) (ha : 0 ≤ a ∧ a ≤ 2147483647) :
    takeV (head n k s q a ++ p) 0 2 = (n, num k 1 ++ (num s 4 ++ (num q 4 ++ (num a 4 ++ p))), 0) ∧ takeV (num k 1 ++ (num s 4 ++ (num q 4 ++ (num a 4 ++ p)))) 0 1 = (k, num s 4 ++ (num q 4 ++ (num a 4 ++ p)), 0) ∧
    takeV (num s 4 ++ (num q 4 ++ (num a 4 ++ p))) 0 4 = (s, num q 4 ++ (num a 4 ++ p), 0) ∧ takeV (num q 4 ++ (num a 4 ++ p)) 0 4 = (q, num a 4 ++ p, 0) ∧ takeV (num a 4 ++ p) 0 4 = (a, p, 0) := by
  refine ⟨?_, take_num _ _ _ (by decide) (by decide) hk.1 (by simp [topV]; omega), take_num _ _ _ (by decide) (by decide) hs.1 (by simp [topV]; omega), take_num _ _ _ (by decide) (by decide) hq.1 (by simp [topV]; omega), take_num _ _ _ (by decide) (by decide) ha.1 (by simp [topV]; omega)⟩
  have := take_num n 2 (num k 1 ++ (num s 4 ++ (num q 4 ++ (num a 4 ++ p)))) (by decide) (by decide) hn.1 (by simp [topV]; omega)
  simpa [head] using this
theorem parse_head {n k s q a : Int} {p : List Int} (hn : 0 ≤ n ∧ n ≤ 65535) (hk : 0 ≤ k ∧ k ≤ 255) (hs : 0 ≤ s ∧ s ≤ 2147483647) (hq : 0 ≤ q ∧ q ≤ 2147483647) (ha : 0 ≤ a ∧ a ≤ 2147483647) :
    parse (head n k s q a ++ p) = if (p.length : Int) = n ∧ FMay k s q a p then some (k, s, q, a, p) else none := by
  obtain ⟨h1, h2, h3, h4, h5⟩ := takes_head (p := p) hn hk hs hq ha
  rw [parse_eq h1 h2 h3 h4 h5]
  simp
theorem parse_body {k s q a : Int} {p : List Int} (h : FMay k s q a p) : parse (body k s q a p) = some (k, s, q, a, p) := by
  obtain ⟨hk, hs, hq, ha, hl, h3⟩ := h
  rw [body, parse_head (by omega) (by omega) hs hq ha, if_pos ⟨rfl, hk, hs, hq, ha, hl, h3⟩]
theorem body_inj {k s q a k' s' q' a' : Int} {p p' : List Int} (h : FMay k s q a p) (h' : FMay k' s' q' a' p') (e : body k s q a p = body k' s' q' a' p') : k = k' ∧ s = s' ∧ q = q' ∧ a = a' ∧ p = p' := by
  have h1 := parse_body h
  have h2 := parse_body h'
  rw [e, h2] at h1
  simp only [Option.some.injEq, Prod.mk.injEq] at h1
  obtain ⟨rfl, rfl, rfl, rfl, rfl⟩ := h1
  exact ⟨rfl, rfl, rfl, rfl, rfl⟩
/-- A beginning of a frame's bytes that has all its numbers, and not all its payload, is none's. -/
theorem parse_cut {k s q a : Int} {p : List Int} (h : FMay k s q a p) (m : Nat) (h1 : m < (body k s q a p).length) (h15 : 15 ≤ m) : parse ((body k s q a p).take m) = none := by
  obtain ⟨hk, hs, hq, ha, hl, h3⟩ := h
  have e : (body k s q a p).take m = head (p.length : Int) k s q a ++ p.take (m - 15) := by
    rw [body, List.take_append, head_length, List.take_of_length_le (by rw [head_length]; omega)]
  rw [body_length] at h1
  rw [e, parse_head (by omega) (by omega) hs hq ha, if_neg]
  intro hh
  have := hh.1
  rw [List.length_take] at this
  omega
end Go.Proofs.Ytedpjakmlniodaa.FramePlain
