/- What frame's Check, Encode and Decode answer, as plain terms. -/
import Derived.Test.YtedpjakmlniodaaFramePlain
import Derived.Test.YtedpjakmlniodaaOctBendBursts
import Derived.Test.YtedpjakmlniodaaSealBendBursts
set_option linter.unusedSimpArgs false
set_option linter.unusedVariables false
namespace Go.Proofs.Ytedpjakmlniodaa.PBendBursts
open Go.RowKit Go.Proofs.YtedpjakmlniodaaW.PrintWords Go.Proofs.YtedpjakmlniodaaW.PrintLast Go.Proofs.Ytedpjakmlniodaa.EvLib Go.Proofs.Ytedpjakmlniodaa.OctPlain Go.Proofs.Ytedpjakmlniodaa.FramePlain

theorem fcount_v (n : Int) : frame_count.f n = some (decide (0 ≤ n ∧ n ≤ 2147483647)) := by
  unfold frame_count.f
  by_cases h : n ≥ 0
  · rw [if_pos h]; congr 1; rw [decide_eq_decide]; omega
  · rw [if_neg h]; congr 1; rw [eq_comm, decide_eq_false_iff_not]; omega
theorem fcheck_v (k s q a : Int) (p : List Int) : frame_Check.f k s q a p = some (if FMay k s q a p then 0 else 1) := by
  unfold frame_Check.f
  simp only [fcount_v, Option.bind_some]
  by_cases h1 : k < 1
  · rw [if_pos h1, if_neg (by omega)]
  rw [if_neg h1]
  by_cases h2 : k ≥ 6
  · rw [if_pos h2, if_neg (by omega)]
  rw [if_neg h2]
  by_cases hs : 0 ≤ s ∧ s ≤ 2147483647
  · rw [if_pos (decide_eq_true hs)]
    by_cases hq : 0 ≤ q ∧ q ≤ 2147483647
    · rw [if_pos (decide_eq_true hq)]
      by_cases ha : 0 ≤ a ∧ a ≤ 2147483647
      · rw [if_pos (decide_eq_true ha)]
        by_cases h3 : (p.length : Int) > 16384
        · rw [if_pos h3, if_neg (by omega)]
        rw [if_neg h3]
        by_cases h4 : k = 3
        · rw [if_pos h4, if_pos ⟨by omega, hs, hq, ha, by omega, .inl h4⟩]
        rw [if_neg h4]
        by_cases h5 : (p.length : Int) > 0
        · rw [if_pos h5, if_neg (by omega)]
        · rw [if_neg h5, if_pos ⟨by omega, hs, hq, ha, by omega, .inr (by omega)⟩]
      · rw [if_neg (by simpa using ha), if_neg (by omega)]
    · rw [if_neg (by simpa using hq), if_neg (by omega)]
  · rw [if_neg (by simpa using hs), if_neg (by omega)]
theorem sealed_inj {c d : List Int} (h : sealed c = sealed d) : c = d := by
  have h1 := opened_sealed c
  rw [h, opened_sealed d] at h1
  exact (Prod.mk.inj h1).1.symm
/-- The frame of bytes without their sum, or why none. -/
def decIn (c : List Int) : Int × Int × Int × Int × List Int × Int :=
  match parse c with
  | some (k, s, q, a, p) => (k, s, q, a, p, 0)
  | none => (0, 0, 0, 0, [], 5)
/-- The frame of bytes, or why none. -/
def decV (b : List Int) : Int × Int × Int × Int × List Int × Int :=
  if b.length > 16403 then (0, 0, 0, 0, [], 3) else if b.length < 19 then (0, 0, 0, 0, [], 5) else if (opened b).2 ≠ 0 then (0, 0, 0, 0, [], 6) else
    decIn (opened b).1
theorem opened_cases (b : List Int) (h : 19 ≤ b.length) : opened b = ([], 6) ∨ (opened b = (b.take (b.length - 4), 0) ∧ sealed (b.take (b.length - 4)) = b) := by
  unfold opened
  rw [if_neg (by omega)]
  by_cases he : sealed (b.take (b.length - 4)) = b
  · rw [if_pos he]; exact .inr ⟨rfl, he⟩
  · rw [if_neg he]; exact .inl rfl
theorem decV_enc {k s q a : Int} {p : List Int} (h : FMay k s q a p) : decV (sealed (body k s q a p)) = (k, s, q, a, p, 0) := by
  unfold decV
  have hl := h.2.2.2.2.1
  rw [if_neg (by rw [sealed_length, body_length]; omega), if_neg (by rw [sealed_length, body_length]; omega), opened_sealed, if_neg (by simp), decIn, parse_body h]
theorem decode_ev (b : List Int) (hb : Bytes b) : Ev (fun n => frame_Decode.f n b) (decV b) := by
  unfold frame_Decode.f
  by_cases h1 : (b.length : Int) > 16403
  · refine Ev.pos h1 ?_
    have hv : decV b = (0, 0, 0, 0, [], 3) := if_pos (by omega)
    rw [hv]; exact Ev.now _
  refine Ev.neg h1 ?_
  have v1 : decV b = if b.length < 19 then (0, 0, 0, 0, [], 5) else if (opened b).2 ≠ 0 then (0, 0, 0, 0, [], 6) else decIn (opened b).1 := if_neg (by omega)
  by_cases h2 : (b.length : Int) < 19
  · refine Ev.pos h2 ?_
    rw [v1, if_pos (by omega)]; exact Ev.now _
  refine Ev.neg h2 ?_
  have v2 := v1.trans (if_neg (by omega))
  refine Ev.bind (crc_Open.ev b hb (by omega)) ?_
  rcases opened_cases b (by omega) with ho | ⟨ho, hseal⟩
  · rw [v2, ho]
    refine Ev.neg (by decide) ?_
    rw [if_pos (by decide)]; exact Ev.now _
  · have v3 : decV b = decIn (b.take (b.length - 4)) := by
      rw [v2, ho, if_neg (by simp)]
    rw [ho]
    refine Ev.pos (by first | rfl | trivial) ?_
    have hc : Bytes (b.take (b.length - 4)) := hb.take _
    have hcl : (b.take (b.length - 4)).length ≤ 16403 := by rw [List.length_take]; omega
    generalize b.take (b.length - 4) = c at v3 hc hcl
    clear v2 v1 ho hseal
    refine Ev.plain (new_v c (by omega)) ?_
    refine Ev.bind (take_ev c 0 2 hc) ?_
    obtain ⟨⟨n, l1, e1⟩, r1⟩ : ∃ r, takeV c 0 2 = r := ⟨_, rfl⟩
    have b1 := takeV_bytes c 0 2 hc
    rw [r1] at b1 ⊢
    refine Ev.bind (take_ev l1 e1 1 b1) ?_
    obtain ⟨⟨k, l2, e2⟩, r2⟩ : ∃ r, takeV l1 e1 1 = r := ⟨_, rfl⟩
    have b2 := takeV_bytes l1 e1 1 b1
    rw [r2] at b2 ⊢
    refine Ev.bind (take_ev l2 e2 4 b2) ?_
    obtain ⟨⟨s, l3, e3⟩, r3⟩ : ∃ r, takeV l2 e2 4 = r := ⟨_, rfl⟩
    have b3 := takeV_bytes l2 e2 4 b2
    rw [r3] at b3 ⊢
    refine Ev.bind (take_ev l3 e3 4 b3) ?_
    obtain ⟨⟨q, l4, e4⟩, r4⟩ : ∃ r, takeV l3 e3 4 = r := ⟨_, rfl⟩
    have b4 := takeV_bytes l3 e3 4 b3
    rw [r4] at b4 ⊢
    refine Ev.bind (take_ev l4 e4 4 b4) ?_
    obtain ⟨⟨a, l5, e5⟩, r5⟩ : ∃ r, takeV l4 e4 4 = r := ⟨_, rfl⟩
    rw [r5]
    have hp := parse_eq r1 r2 r3 r4 r5
    have no : ¬ (e5 = 0 ∧ (l5.length : Int) = n ∧ FMay k s q a l5) → decV b = (0, 0, 0, 0, [], 5) := fun h => by
      rw [v3, decIn, hp, if_neg h]
    have bad : decV b = (0, 0, 0, 0, [], 5) → Ev (fun m => frame_Decode.j0 m c n true k s q a) (decV b) := fun h => by
      rw [h]
      exact Ev.step (f := fun m => _) (fun m => by simp only [frame_Decode.j0]; rw [if_pos trivial]) (Ev.now _)
    refine Ev.plain (show octet_Scan_Err.f l5 e5 = some e5 from rfl) ?_
    refine Ev.cases (fun h5 => ?_) (fun h5 => bad (no (fun h => h5 h.1)))
    subst h5
    refine Ev.plain (show octet_Scan_Left.f l5 0 = some (l5.length : Int) from rfl) ?_
    by_cases hn : (l5.length : Int) = n
    · have e0 : ((l5.length : Int) != n) = false := by rw [hn]; simp
      rw [e0]
      obtain ⟨hcd, hnr, _⟩ := takes_inv hc r1 r2 r3 r4 r5
      have hlen : c.length = 15 + l5.length := by rw [hcd, List.length_append, head_length]
      refine Ev.step (f := fun m => _) (fun m => by simp only [frame_Decode.j0]; rw [if_neg (fun h => Bool.noConfusion h)]) ?_
      have fin : ∀ (t : Int), t = (if FMay k s q a l5 then 0 else 1) → Ev (fun m => if t = 0 then some (k, s, q, a, l5, 0) else some (0, 0, 0, 0, [], 5)) (decV b) := fun t ht => by
        by_cases hm : FMay k s q a l5
        · have : decV b = (k, s, q, a, l5, 0) := by rw [v3, decIn, hp, if_pos ⟨rfl, hn, hm⟩]
          rw [this, ht, if_pos hm]
          exact Ev.pos rfl (Ev.now _)
        · rw [no (fun h => hm h.2.2), ht, if_neg hm]
          exact Ev.neg (by decide) (Ev.now _)
      by_cases hp0 : n > 0
      · refine Ev.pos hp0 ?_
        have hw : wrap64 ((c.length : Int) - n) = 15 := by rw [wrap_id (by omega) (by omega)]; omega
        have hdrop : c.drop 15 = l5 := by
          rw [hcd, ← head_length n k s q a, List.drop_left]
        rw [hw]
        simp only [Option.bind_some, List.nil_append, List.length_nil, Nat.zero_add]
        refine Ev.pos (by decide) (Ev.pos (by omega) ?_)
        rw [show (15 : Int).toNat = 15 from rfl, hdrop]
        refine Ev.pos (by omega) ?_
        refine Ev.plain (fcheck_v k s q a l5) ?_
        exact fin _ rfl
      · refine Ev.neg hp0 ?_
        have hl0 : l5 = [] := List.eq_nil_of_length_eq_zero (by omega)
        refine Ev.plain (fcheck_v k s q a []) ?_
        have := fin (if FMay k s q a [] then 0 else 1) (by rw [hl0])
        rw [hl0] at this
        exact this
    · have e0 : ((l5.length : Int) != n) = true := by rw [bne_iff_ne]; exact hn
      rw [e0]
      exact bad (no (fun h => hn h.2.1))
end Go.Proofs.Ytedpjakmlniodaa.PBendBursts
