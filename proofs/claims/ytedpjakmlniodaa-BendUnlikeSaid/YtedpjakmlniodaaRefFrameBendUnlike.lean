/- What the reference's frames are: their bytes, and what bytes are one. -/
import Derived.Test.YtedpjakmlniodaaFrameBendUnlike
import Derived.Test.YtedpjakmlniodaaRefBendUnlike
import Derived.Test.YtedpjakmlniodaaOctNumBendUnlike
import Derived.Test.YtedpjakmlniodaaOctRefBendUnlike
set_option linter.unusedSimpArgs false
set_option linter.unusedVariables false
namespace Go.Proofs.Ytedpjakmlniodaa.PBendUnlike
open Go.RowKit Go.Proofs.YtedpjakmlniodaaW.PrintWords Go.Proofs.YtedpjakmlniodaaW.PrintLast Go.Proofs.Ytedpjakmlniodaa.EvLib Go.Proofs.Ytedpjakmlniodaa.OctPlain Go.Proofs.Ytedpjakmlniodaa.FramePlain

theorem ref_seal (l : List Int) (hl : Bytes l) (hlen : l.length < 140737488355320) : Ev (fun k => withyref01_Seal.f k l) (sealed l) := by
  unfold withyref01_Seal.f
  refine Ev.bind (withyref01_Of.ev l hl (by omega)) ?_
  refine Ev.name ?_
  refine Ev.pos (by simp; omega) ?_
  refine Ev.name ?_
  refine Ev.name ?_
  refine Ev.pos (by simp; omega) ?_
  exact Ev.now _
theorem ref_bytes_ev (k s q a : Int) (p : List Int) (hm : FMay k s q a p) (hp : Bytes p) : Ev (fun n => withyref03_Bytes.f n k s q a p) (sealed (body k s q a p)) := by
  obtain ⟨hk, hs, hq, ha, hl, h3⟩ := hm
  have n2 := num_length (n := (p.length : Int)) (w := 2) (by decide) (by decide)
  have n1 := num_length (n := k) (w := 1) (by decide) (by decide)
  have ns := num_length (n := s) (w := 4) (by decide) (by decide)
  have nq := num_length (n := q) (w := 4) (by decide) (by decide)
  have na := num_length (n := a) (w := 4) (by decide) (by decide)
  unfold withyref03_Bytes.f
  refine Ev.bind (rnum_ev _ 2 (by decide) (by decide) (by omega) (by omega)) ?_
  refine Ev.bind (rnum_ev k 1 (by decide) (by decide) (by omega) (by omega)) ?_
  refine Ev.pos (by omega) ?_
  (try refine Ev.name ?_)
  refine Ev.bind (rnum_ev s 4 (by decide) (by decide) (by omega) (by omega)) ?_
  refine Ev.pos (by simp only [List.length_append]; omega) ?_
  (try refine Ev.name ?_)
  refine Ev.bind (rnum_ev q 4 (by decide) (by decide) (by omega) (by omega)) ?_
  refine Ev.pos (by simp only [List.length_append]; omega) ?_
  (try refine Ev.name ?_)
  refine Ev.bind (rnum_ev a 4 (by decide) (by decide) (by omega) (by omega)) ?_
  refine Ev.pos (by simp only [List.length_append]; omega) ?_
  (try refine Ev.name ?_)
  refine Ev.pos (by simp only [List.length_append]; omega) ?_
  have e : (((num (p.length : Int) 2 ++ num k 1) ++ num s 4) ++ num q 4) ++ num a 4 ++ p = body k s q a p := by simp [body, head]
  rw [e]
  exact Ev.bind (ref_seal _ (body_bytes hp) (by rw [body_length]; omega)) (Ev.now _)
theorem ref_open (l : List Int) (hl : Bytes l) (hlen : l.length < 140737488355320) (h4 : 4 ≤ l.length) : Ev (fun k => withyref01_Open.f k l) (l.take (l.length - 4), decide (sealed (l.take (l.length - 4)) = l)) := by
  have hw : wrap64 ((l.length : Int) - 4) = (l.length : Int) - 4 := wrap_id (by omega) (by omega)
  have hn : ((l.length : Int) - 4).toNat = l.length - 4 := by omega
  unfold withyref01_Open.f
  rw [hw, hn]
  refine Ev.neg (by omega) ?_
  refine Ev.pos (by omega) ?_
  refine Ev.pos (by omega) ?_
  refine Ev.name ?_
  refine Ev.bind (ref_seal _ (hl.take _) (by simp; omega)) ?_
  refine Ev.answered ?_
  congr 2
  rw [Bool.eq_iff_iff, beq_iff_eq, decide_eq_true_iff]
  exact ⟨fun h => strOf_inj (sealed_bytes (hl.take _)) hl h, fun h => by rw [h]⟩
theorem ref_decode_ev (b : List Int) (hb : Bytes b) : Ev (fun n => withyref03_Decode.f n b) (decV b) := by
  unfold withyref03_Decode.f
  by_cases h1 : (b.length : Int) > 16403
  · refine Ev.pos h1 ?_
    have hv : decV b = (0, 0, 0, 0, [], 3) := if_pos (by omega)
    rw [hv]; exact Ev.now _
  refine Ev.neg h1 ?_
  have v1 : decV b = if b.length < 19 then (0, 0, 0, 0, [], 5) else if (opened b).2 ≠ 0 then (0, 0, 0, 0, [], 6) else decIn (opened b).1 := if_neg (by omega)
  by_cases h2 : (b.length : Int) < 19
  · refine Ev.pos h2 ?_
    rw [v1, if_pos (by omega)]; exact Ev.now _
  refine Ev.neg h2 ?_
  have v2 := v1.trans (if_neg (by omega))
  refine Ev.bind (ref_open b hb (by omega) (by omega)) ?_
  rcases opened_cases b (by omega) with ho | ⟨ho, hseal⟩
  · have he : sealed (b.take (b.length - 4)) ≠ b := fun he => by
      unfold opened at ho
      rw [if_neg (by omega), if_pos he] at ho
      simp at ho
    rw [v2, ho, decide_eq_false he]
    refine Ev.neg (fun h => Bool.noConfusion h) ?_
    rw [if_pos (by decide)]; exact Ev.now _
  · have v3 : decV b = decIn (b.take (b.length - 4)) := by
      rw [v2, ho, if_neg (by simp)]
    rw [decide_eq_true hseal]
    refine Ev.pos (by first | rfl | trivial) ?_
    have hc : Bytes (b.take (b.length - 4)) := hb.take _
    have hcl : (b.take (b.length - 4)).length ≤ 16399 := by rw [List.length_take]; omega
    generalize b.take (b.length - 4) = c at v3 hc hcl hseal
    clear v2 v1 ho
    refine Ev.bind (rtake_ev c 0 2 hc) ?_
    obtain ⟨⟨n, l1, e1⟩, r1⟩ : ∃ r, takeV c 0 2 = r := ⟨_, rfl⟩
    have b1 := takeV_bytes c 0 2 hc
    rw [r1] at b1 ⊢
    refine Ev.bind (rtake_ev l1 e1 1 b1) ?_
    obtain ⟨⟨k, l2, e2⟩, r2⟩ : ∃ r, takeV l1 e1 1 = r := ⟨_, rfl⟩
    have b2 := takeV_bytes l1 e1 1 b1
    rw [r2] at b2 ⊢
    refine Ev.bind (rtake_ev l2 e2 4 b2) ?_
    obtain ⟨⟨s, l3, e3⟩, r3⟩ : ∃ r, takeV l2 e2 4 = r := ⟨_, rfl⟩
    have b3 := takeV_bytes l2 e2 4 b2
    rw [r3] at b3 ⊢
    refine Ev.step (f := fun m => _) (fun m => by simp only [withyref03_Decode.j0]; rfl) ?_
    refine Ev.bind (rtake_ev l3 e3 4 b3) ?_
    obtain ⟨⟨q, l4, e4⟩, r4⟩ : ∃ r, takeV l3 e3 4 = r := ⟨_, rfl⟩
    have b4 := takeV_bytes l3 e3 4 b3
    rw [r4] at b4 ⊢
    refine Ev.bind (rtake_ev l4 e4 4 b4) ?_
    obtain ⟨⟨a, l5, e5⟩, r5⟩ : ∃ r, takeV l4 e4 4 = r := ⟨_, rfl⟩
    have b5 := takeV_bytes l4 e4 4 b4
    rw [r5] at b5 ⊢
    have hp := parse_eq r1 r2 r3 r4 r5
    have no : ¬ (e5 = 0 ∧ (l5.length : Int) = n ∧ FMay k s q a l5) → decV b = (0, 0, 0, 0, [], 5) := fun h => by
      rw [v3, decIn, hp, if_neg h]
    refine Ev.cases (fun h5 => ?_) (fun h5 => ?_)
    · have h5' : e5 = 0 := h5
      subst h5'
      obtain ⟨hcd, hnr, _⟩ := takes_inv hc r1 r2 r3 r4 r5
      have hl5 : l5.length ≤ 16399 := by
        have : c.length = 15 + l5.length := by rw [hcd, List.length_append, head_length]
        omega
      refine Ev.bind (may_ev k s q a l5 (by omega)) ?_
      by_cases hm : FMay k s q a l5
      · rw [decide_eq_true hm]
        refine Ev.pos (by first | rfl | trivial) ?_
        refine Ev.bind (ref_bytes_ev k s q a l5 hm b5) ?_
        have hiff : (strOfNums (sealed (body k s q a l5))).toList = (strOfNums b).toList ↔ (l5.length : Int) = n := by
          constructor
          · intro h
            have h' := strOf_inj (sealed_bytes (body_bytes b5)) hb h
            rw [← hseal] at h'
            have h2 := sealed_inj h'
            rw [hcd] at h2
            have h3 : head (l5.length : Int) k s q a = head n k s q a := List.append_cancel_right h2
            have h4 : num (l5.length : Int) 2 = num n 2 := by
              have e1 := congrArg (List.take 2) h3
              unfold head at e1
              have g1 : (num (l5.length : Int) 2).length = 2 := by have := num_length (n := (l5.length : Int)) (w := 2) (by decide) (by decide); omega
              have g2 : (num n 2).length = 2 := by have := num_length (n := n) (w := 2) (by decide) (by decide); omega
              rw [← g1, List.take_left, g1, ← g2, List.take_left] at e1
              exact e1
            have v := val_num (n := (l5.length : Int)) (w := 2) (by decide) (by decide) (by omega) (by simp [topV]; omega)
            have v' := val_num (n := n) (w := 2) (by decide) (by decide) hnr.1 (by simp [topV]; omega)
            rw [← v, h4, v']
          · intro h
            rw [body, h, ← hcd, hseal]
        by_cases hn : (l5.length : Int) = n
        · refine Ev.pos (hiff.2 hn) ?_
          have : decV b = (k, s, q, a, l5, 0) := by rw [v3, decIn, hp, if_pos ⟨rfl, hn, hm⟩]
          rw [this]; exact Ev.now _
        · refine Ev.neg (fun h => hn (hiff.1 h)) ?_
          rw [no (fun h => hn h.2.1)]; exact Ev.now _
      · rw [decide_eq_false hm]
        refine Ev.neg (fun h => Bool.noConfusion h) ?_
        rw [no (fun h => hm h.2.2)]; exact Ev.now _
    · rw [no (fun h => h5 h.1)]; exact Ev.now _
end Go.Proofs.Ytedpjakmlniodaa.PBendUnlike
