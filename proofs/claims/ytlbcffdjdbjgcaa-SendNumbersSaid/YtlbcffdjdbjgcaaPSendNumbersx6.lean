-- written by a widened copy of the print, a program of this session; Lean checks it.
import Derived.Test.YtlbcffdjdbjgcaaPSendNumbersx0
import Derived.Test.YtlbcffdjdbjgcaaPSendNumbersx1
import Derived.Test.YtlbcffdjdbjgcaaPSendNumbersx2
import Derived.Test.YtlbcffdjdbjgcaaPSendNumbersx3
import Derived.Test.YtlbcffdjdbjgcaaPSendNumbersx4
import Derived.Test.YtlbcffdjdbjgcaaPSendNumbersx5
namespace Go.Proofs.Ytlbcffdjdbjgcaa.PSendNumbers
open Go.RowKit Go.Proofs.YtlbcffdjdbjgcaaW.PrintWords Go.Proofs.YtlbcffdjdbjgcaaW.PrintLast Go.Proofs.YtlbcffdjdbjgcaaW.PrintMore
attribute [local go_sem] max2_int min2_int max_two min_two max_three min_three max_four min_four   -- for this text's walks alone
set_option linter.unusedVariables false
set_option linter.unusedSimpArgs false

/-! ### withylaw14_SendNumbers: function 5 -/
mutual
def withylaw14_SendNumbers.j0 : Nat → List Int → Bool → Int → Int → List (List Int) → Int → Option (Bool)
 | 0, _, _, _, _, _, _ => none
 | k + 1, x1, x26, x203000, x203001, x203002, x203003 => if x26 = true then ((withylaw14_awake.f k).bind fun t205 => (some t205)) else (withylaw14_SendNumbers.l0 k x1 (x203002.length : Int) 0 x203000 x203001 x203002 x203003)
def withylaw14_SendNumbers.l0 : Nat → List Int → Int → Int → Int → Int → List (List Int) → Int → Option (Bool)
 | 0, _, _, _, _, _, _, _ => none
 | k + 1, x1, x5, x6, x203000, x203001, x203002, x203003 => if x6 < (x1.length : Int) then (withylaw14_SendNumbers.j2 k x1 x5 x6 (decide (x6 < 60)) x203000 x203001 x203002 x203003) else (withylaw14_SendNumbers.j2 k x1 x5 x6 false x203000 x203001 x203002 x203003)
def withylaw14_SendNumbers.j2 : Nat → List Int → Int → Int → Bool → Int → Int → List (List Int) → Int → Option (Bool)
 | 0, _, _, _, _, _, _, _, _ => none
 | k + 1, x1, x5, x6, x38, x203000, x203001, x203002, x203003 => if x38 = true then ((some (([] : List (S44)) : List (S44))).bind fun y207 => (if 0 ≤ x6 then (if x6 < (x1.length : Int) then (if (rd x1 x6) = (-1) then ((send_Ready.f k x203000 x203001 x203002 x203003).bind fun bt211 => (withylaw14_SendNumbers.j3 k x1 x5 x6 bt211.2.2.2.2.1 bt211.2.2.2.2.2 x203000 bt211.1 bt211.2.1 bt211.2.2.1 bt211.2.2.2.1)) else (if (rd x1 x6) < 0 then ((send_Tick.f k x203000 x203001 x203002 x203003).bind fun bt222 => (withylaw14_SendNumbers.j3 k x1 x5 x6 bt222.2.2.2.2.1 bt222.2.2.2.2.2 x203000 bt222.1 bt222.2.1 bt222.2.2.1 bt222.2.2.2.1)) else (if (rd x1 x6) = 0 then ((send_Push.f k x203000 x203001 x203002 x203003 (([1] : List Int)) 2147483647).bind fun bt236 => (if (x203002.length : Int) < 256 then (withylaw14_SendNumbers.j3 k x1 (wrap64 (x5 + 1)) x6 y207 0 x203000 bt236.1 bt236.2.1 bt236.2.2.1 bt236.2.2.2.1) else (if bt236.2.2.2.2 = 2 then (withylaw14_SendNumbers.j3 k x1 x5 x6 y207 0 x203000 x203000 x203001 x203002 x203003) else (some false)))) else ((send_Ack.f k x203000 x203001 x203002 x203003 (wrap64 (x203000 + (Int.tmod (rd x1 x6) 20)))).bind fun bt245 => (withylaw14_SendNumbers.j3 k x1 x5 x6 y207 bt245.2.2.2.2 x203000 bt245.1 bt245.2.1 bt245.2.2.1 bt245.2.2.2.1))))) else (none)) else (none))) else ((withylaw14_awake.f k).bind fun t206 => (some t206))
def withylaw14_SendNumbers.j3 : Nat → List Int → Int → Int → List (S44) → Int → Int → Int → Int → List (List Int) → Int → Option (Bool)
 | 0, _, _, _, _, _, _, _, _, _, _ => none
 | k + 1, x1, x5, x6, x7, x8, x9, x203000, x203001, x203002, x203003 => if x8 = 0 then (if (x7.length : Int) > 16 then (withylaw14_SendNumbers.j4 k x1 x6 x7 true x203000 x203001 x203002 x203003) else (if x203000 < x9 then (withylaw14_SendNumbers.j4 k x1 x6 x7 true x203000 x203001 x203002 x203003) else (withylaw14_SendNumbers.j4 k x1 x6 x7 ((x203002.length : Int) != (wrap64 (x5 - (wrap64 (x203000 - x9))))) x203000 x203001 x203002 x203003))) else (withylaw14_SendNumbers.j4 k x1 x6 x7 true x203000 x203001 x203002 x203003)
def withylaw14_SendNumbers.j4 : Nat → List Int → Int → List (S44) → Bool → Int → Int → List (List Int) → Int → Option (Bool)
 | 0, _, _, _, _, _, _, _, _ => none
 | k + 1, x1, x6, x7, x127, x203000, x203001, x203002, x203003 => if x127 = true then (some false) else (withylaw14_SendNumbers.l1 k x1 (x203002.length : Int) x6 x7 0 x203000 x203001 x203002 x203003)
def withylaw14_SendNumbers.l1 : Nat → List Int → Int → Int → List (S44) → Int → Int → Int → List (List Int) → Int → Option (Bool)
 | 0, _, _, _, _, _, _, _, _, _ => none
 | k + 1, x1, x5, x6, x7, x13, x203000, x203001, x203002, x203003 => if x13 < (x7.length : Int) then (if x13 > 0 then (if 0 ≤ x13 then (if 0 ≤ (wrap64 (x13 - 1)) then (if (wrap64 (x13 - 1)) < (x7.length : Int) then (if ((rd_T44 x7 x13).f0) = (wrap64 (((rd_T44 x7 (wrap64 (x13 - 1))).f0) + 1)) then (if ((rd_T44 x7 x13).f0) < x203000 then (some false) else (if ((rd_T44 x7 x13).f0) ≥ (wrap64 (x203000 + 16)) then (some false) else (withylaw14_SendNumbers.l1 k x1 x5 x6 x7 (wrap64 (x13 + 1)) x203000 x203001 x203002 x203003))) else (some false)) else (none)) else (none)) else (none)) else (if 0 ≤ x13 then (if ((rd_T44 x7 x13).f0) < x203000 then (some false) else (if ((rd_T44 x7 x13).f0) ≥ (wrap64 (x203000 + 16)) then (some false) else (withylaw14_SendNumbers.l1 k x1 x5 x6 x7 (wrap64 (x13 + 1)) x203000 x203001 x203002 x203003))) else (none))) else (withylaw14_SendNumbers.l0 k x1 x5 (wrap64 (x6 + 1)) x203000 x203001 x203002 x203003)
end
def withylaw14_SendNumbers.f (k : Nat) (a0_0 : Int) (a0_1 : Int) (l0_2 : List (List Int)) (a0_3 : Int) (l1 : List Int) : Option (Bool) := (withylaw14_Light.f k a0_0 a0_1 l0_2 a0_3).bind fun t203 => (if t203 = true then ((withyref14_May.f k a0_0 a0_1 l0_2 a0_3).bind fun t204 => (if t204 = true then (withylaw14_SendNumbers.j0 k l1 (decide (a0_0 > 1000000)) a0_0 a0_1 l0_2 a0_3) else (withylaw14_SendNumbers.j0 k l1 true a0_0 a0_1 l0_2 a0_3))) else (withylaw14_SendNumbers.j0 k l1 true a0_0 a0_1 l0_2 a0_3))
theorem withylaw14_SendNumbers.mono_l : ∀ k, (∀ y0 y1 y2 y3 y4 y5, LeO (withylaw14_SendNumbers.j0 k y0 y1 y2 y3 y4 y5) (withylaw14_SendNumbers.j0 (k + 1) y0 y1 y2 y3 y4 y5)) ∧ (∀ y0 y1 y2 y3 y4 y5 y6, LeO (withylaw14_SendNumbers.l0 k y0 y1 y2 y3 y4 y5 y6) (withylaw14_SendNumbers.l0 (k + 1) y0 y1 y2 y3 y4 y5 y6)) ∧ (∀ y0 y1 y2 y3 y4 y5 y6 y7, LeO (withylaw14_SendNumbers.j2 k y0 y1 y2 y3 y4 y5 y6 y7) (withylaw14_SendNumbers.j2 (k + 1) y0 y1 y2 y3 y4 y5 y6 y7)) ∧ (∀ y0 y1 y2 y3 y4 y5 y6 y7 y8 y9, LeO (withylaw14_SendNumbers.j3 k y0 y1 y2 y3 y4 y5 y6 y7 y8 y9) (withylaw14_SendNumbers.j3 (k + 1) y0 y1 y2 y3 y4 y5 y6 y7 y8 y9)) ∧ (∀ y0 y1 y2 y3 y4 y5 y6 y7, LeO (withylaw14_SendNumbers.j4 k y0 y1 y2 y3 y4 y5 y6 y7) (withylaw14_SendNumbers.j4 (k + 1) y0 y1 y2 y3 y4 y5 y6 y7)) ∧ (∀ y0 y1 y2 y3 y4 y5 y6 y7 y8, LeO (withylaw14_SendNumbers.l1 k y0 y1 y2 y3 y4 y5 y6 y7 y8) (withylaw14_SendNumbers.l1 (k + 1) y0 y1 y2 y3 y4 y5 y6 y7 y8))
 | 0 => ⟨fun _ _ _ _ _ _ r h => by simp [withylaw14_SendNumbers.j0] at h, fun _ _ _ _ _ _ _ r h => by simp [withylaw14_SendNumbers.l0] at h, fun _ _ _ _ _ _ _ _ r h => by simp [withylaw14_SendNumbers.j2] at h, fun _ _ _ _ _ _ _ _ _ _ r h => by simp [withylaw14_SendNumbers.j3] at h, fun _ _ _ _ _ _ _ _ r h => by simp [withylaw14_SendNumbers.j4] at h, fun _ _ _ _ _ _ _ _ _ r h => by simp [withylaw14_SendNumbers.l1] at h⟩
 | k + 1 => by
  obtain ⟨ih0, ih1, ih2, ih3, ih4, ih5⟩ := withylaw14_SendNumbers.mono_l k
  refine ⟨?_, ?_, ?_, ?_, ?_, ?_⟩
  ·intro y0 y1 y2 y3 y4 y5
   unfold withylaw14_SendNumbers.j0
   repeat' first
   | (with_reducible exact ih0 _ _ _ _ _ _)
   | (with_reducible exact ih1 _ _ _ _ _ _ _)
   | (with_reducible exact ih2 _ _ _ _ _ _ _ _)
   | (with_reducible exact ih3 _ _ _ _ _ _ _ _ _ _)
   | (with_reducible exact ih4 _ _ _ _ _ _ _ _)
   | (with_reducible exact ih5 _ _ _ _ _ _ _ _ _)
   | (with_reducible exact send_Ack.mono _ _ _ _ _ _)
   | (with_reducible exact send_Push.mono _ _ _ _ _ _ _)
   | (with_reducible exact send_Ready.mono _ _ _ _ _)
   | (with_reducible exact send_Tick.mono _ _ _ _ _)
   | (with_reducible exact withylaw14_Light.mono _ _ _ _ _)
   | (with_reducible exact withylaw14_awake.mono _)
   | (with_reducible exact withyref14_May.mono _ _ _ _ _)
   | (with_reducible exact LeO.refl _)
   | (with_reducible exact LeO.none _)
   | (with_reducible refine LeO.ite ?_ ?_)
   | (with_reducible refine LeO.bind ?_ (fun _ => ?_))
   | exact ih0 _ _ _ _ _ _
   | exact ih1 _ _ _ _ _ _ _
   | exact ih2 _ _ _ _ _ _ _ _
   | exact ih3 _ _ _ _ _ _ _ _ _ _
   | exact ih4 _ _ _ _ _ _ _ _
   | exact ih5 _ _ _ _ _ _ _ _ _
   | exact send_Ack.mono _ _ _ _ _ _
   | exact send_Push.mono _ _ _ _ _ _ _
   | exact send_Ready.mono _ _ _ _ _
   | exact send_Tick.mono _ _ _ _ _
   | exact withylaw14_Light.mono _ _ _ _ _
   | exact withylaw14_awake.mono _
   | exact withyref14_May.mono _ _ _ _ _
   | exact LeO.none _
   | refine LeO.ite ?_ ?_
   | refine LeO.bind ?_ (fun _ => ?_)
  ·intro y0 y1 y2 y3 y4 y5 y6
   unfold withylaw14_SendNumbers.l0
   repeat' first
   | (with_reducible exact ih0 _ _ _ _ _ _)
   | (with_reducible exact ih1 _ _ _ _ _ _ _)
   | (with_reducible exact ih2 _ _ _ _ _ _ _ _)
   | (with_reducible exact ih3 _ _ _ _ _ _ _ _ _ _)
   | (with_reducible exact ih4 _ _ _ _ _ _ _ _)
   | (with_reducible exact ih5 _ _ _ _ _ _ _ _ _)
   | (with_reducible exact send_Ack.mono _ _ _ _ _ _)
   | (with_reducible exact send_Push.mono _ _ _ _ _ _ _)
   | (with_reducible exact send_Ready.mono _ _ _ _ _)
   | (with_reducible exact send_Tick.mono _ _ _ _ _)
   | (with_reducible exact withylaw14_Light.mono _ _ _ _ _)
   | (with_reducible exact withylaw14_awake.mono _)
   | (with_reducible exact withyref14_May.mono _ _ _ _ _)
   | (with_reducible exact LeO.refl _)
   | (with_reducible exact LeO.none _)
   | (with_reducible refine LeO.ite ?_ ?_)
   | (with_reducible refine LeO.bind ?_ (fun _ => ?_))
   | exact ih0 _ _ _ _ _ _
   | exact ih1 _ _ _ _ _ _ _
   | exact ih2 _ _ _ _ _ _ _ _
   | exact ih3 _ _ _ _ _ _ _ _ _ _
   | exact ih4 _ _ _ _ _ _ _ _
   | exact ih5 _ _ _ _ _ _ _ _ _
   | exact send_Ack.mono _ _ _ _ _ _
   | exact send_Push.mono _ _ _ _ _ _ _
   | exact send_Ready.mono _ _ _ _ _
   | exact send_Tick.mono _ _ _ _ _
   | exact withylaw14_Light.mono _ _ _ _ _
   | exact withylaw14_awake.mono _
   | exact withyref14_May.mono _ _ _ _ _
   | exact LeO.none _
   | refine LeO.ite ?_ ?_
   | refine LeO.bind ?_ (fun _ => ?_)
  ·intro y0 y1 y2 y3 y4 y5 y6 y7
   unfold withylaw14_SendNumbers.j2
   repeat' first
   | (with_reducible exact ih0 _ _ _ _ _ _)
   | (with_reducible exact ih1 _ _ _ _ _ _ _)
   | (with_reducible exact ih2 _ _ _ _ _ _ _ _)
   | (with_reducible exact ih3 _ _ _ _ _ _ _ _ _ _)
   | (with_reducible exact ih4 _ _ _ _ _ _ _ _)
   | (with_reducible exact ih5 _ _ _ _ _ _ _ _ _)
   | (with_reducible exact send_Ack.mono _ _ _ _ _ _)
   | (with_reducible exact send_Push.mono _ _ _ _ _ _ _)
   | (with_reducible exact send_Ready.mono _ _ _ _ _)
   | (with_reducible exact send_Tick.mono _ _ _ _ _)
   | (with_reducible exact withylaw14_Light.mono _ _ _ _ _)
   | (with_reducible exact withylaw14_awake.mono _)
   | (with_reducible exact withyref14_May.mono _ _ _ _ _)
   | (with_reducible exact LeO.refl _)
   | (with_reducible exact LeO.none _)
   | (with_reducible refine LeO.ite ?_ ?_)
   | (with_reducible refine LeO.bind ?_ (fun _ => ?_))
   | exact ih0 _ _ _ _ _ _
   | exact ih1 _ _ _ _ _ _ _
   | exact ih2 _ _ _ _ _ _ _ _
   | exact ih3 _ _ _ _ _ _ _ _ _ _
   | exact ih4 _ _ _ _ _ _ _ _
   | exact ih5 _ _ _ _ _ _ _ _ _
   | exact send_Ack.mono _ _ _ _ _ _
   | exact send_Push.mono _ _ _ _ _ _ _
   | exact send_Ready.mono _ _ _ _ _
   | exact send_Tick.mono _ _ _ _ _
   | exact withylaw14_Light.mono _ _ _ _ _
   | exact withylaw14_awake.mono _
   | exact withyref14_May.mono _ _ _ _ _
   | exact LeO.none _
   | refine LeO.ite ?_ ?_
   | refine LeO.bind ?_ (fun _ => ?_)
  ·intro y0 y1 y2 y3 y4 y5 y6 y7 y8 y9
   unfold withylaw14_SendNumbers.j3
   repeat' first
   | (with_reducible exact ih0 _ _ _ _ _ _)
   | (with_reducible exact ih1 _ _ _ _ _ _ _)
   | (with_reducible exact ih2 _ _ _ _ _ _ _ _)
   | (with_reducible exact ih3 _ _ _ _ _ _ _ _ _ _)
   | (with_reducible exact ih4 _ _ _ _ _ _ _ _)
   | (with_reducible exact ih5 _ _ _ _ _ _ _ _ _)
   | (with_reducible exact send_Ack.mono _ _ _ _ _ _)
   | (with_reducible exact send_Push.mono _ _ _ _ _ _ _)
   | (with_reducible exact send_Ready.mono _ _ _ _ _)
   | (with_reducible exact send_Tick.mono _ _ _ _ _)
   | (with_reducible exact withylaw14_Light.mono _ _ _ _ _)
   | (with_reducible exact withylaw14_awake.mono _)
   | (with_reducible exact withyref14_May.mono _ _ _ _ _)
   | (with_reducible exact LeO.refl _)
   | (with_reducible exact LeO.none _)
   | (with_reducible refine LeO.ite ?_ ?_)
   | (with_reducible refine LeO.bind ?_ (fun _ => ?_))
   | exact ih0 _ _ _ _ _ _
   | exact ih1 _ _ _ _ _ _ _
   | exact ih2 _ _ _ _ _ _ _ _
   | exact ih3 _ _ _ _ _ _ _ _ _ _
   | exact ih4 _ _ _ _ _ _ _ _
   | exact ih5 _ _ _ _ _ _ _ _ _
   | exact send_Ack.mono _ _ _ _ _ _
   | exact send_Push.mono _ _ _ _ _ _ _
   | exact send_Ready.mono _ _ _ _ _
   | exact send_Tick.mono _ _ _ _ _
   | exact withylaw14_Light.mono _ _ _ _ _
   | exact withylaw14_awake.mono _
   | exact withyref14_May.mono _ _ _ _ _
   | exact LeO.none _
   | refine LeO.ite ?_ ?_
   | refine LeO.bind ?_ (fun _ => ?_)
  ·intro y0 y1 y2 y3 y4 y5 y6 y7
   unfold withylaw14_SendNumbers.j4
   repeat' first
   | (with_reducible exact ih0 _ _ _ _ _ _)
   | (with_reducible exact ih1 _ _ _ _ _ _ _)
   | (with_reducible exact ih2 _ _ _ _ _ _ _ _)
   | (with_reducible exact ih3 _ _ _ _ _ _ _ _ _ _)
   | (with_reducible exact ih4 _ _ _ _ _ _ _ _)
   | (with_reducible exact ih5 _ _ _ _ _ _ _ _ _)
   | (with_reducible exact send_Ack.mono _ _ _ _ _ _)
   | (with_reducible exact send_Push.mono _ _ _ _ _ _ _)
   | (with_reducible exact send_Ready.mono _ _ _ _ _)
   | (with_reducible exact send_Tick.mono _ _ _ _ _)
   | (with_reducible exact withylaw14_Light.mono _ _ _ _ _)
   | (with_reducible exact withylaw14_awake.mono _)
   | (with_reducible exact withyref14_May.mono _ _ _ _ _)
   | (with_reducible exact LeO.refl _)
   | (with_reducible exact LeO.none _)
   | (with_reducible refine LeO.ite ?_ ?_)
   | (with_reducible refine LeO.bind ?_ (fun _ => ?_))
   | exact ih0 _ _ _ _ _ _
   | exact ih1 _ _ _ _ _ _ _
   | exact ih2 _ _ _ _ _ _ _ _
   | exact ih3 _ _ _ _ _ _ _ _ _ _
   | exact ih4 _ _ _ _ _ _ _ _
   | exact ih5 _ _ _ _ _ _ _ _ _
   | exact send_Ack.mono _ _ _ _ _ _
   | exact send_Push.mono _ _ _ _ _ _ _
   | exact send_Ready.mono _ _ _ _ _
   | exact send_Tick.mono _ _ _ _ _
   | exact withylaw14_Light.mono _ _ _ _ _
   | exact withylaw14_awake.mono _
   | exact withyref14_May.mono _ _ _ _ _
   | exact LeO.none _
   | refine LeO.ite ?_ ?_
   | refine LeO.bind ?_ (fun _ => ?_)
  ·intro y0 y1 y2 y3 y4 y5 y6 y7 y8
   unfold withylaw14_SendNumbers.l1
   repeat' first
   | (with_reducible exact ih0 _ _ _ _ _ _)
   | (with_reducible exact ih1 _ _ _ _ _ _ _)
   | (with_reducible exact ih2 _ _ _ _ _ _ _ _)
   | (with_reducible exact ih3 _ _ _ _ _ _ _ _ _ _)
   | (with_reducible exact ih4 _ _ _ _ _ _ _ _)
   | (with_reducible exact ih5 _ _ _ _ _ _ _ _ _)
   | (with_reducible exact send_Ack.mono _ _ _ _ _ _)
   | (with_reducible exact send_Push.mono _ _ _ _ _ _ _)
   | (with_reducible exact send_Ready.mono _ _ _ _ _)
   | (with_reducible exact send_Tick.mono _ _ _ _ _)
   | (with_reducible exact withylaw14_Light.mono _ _ _ _ _)
   | (with_reducible exact withylaw14_awake.mono _)
   | (with_reducible exact withyref14_May.mono _ _ _ _ _)
   | (with_reducible exact LeO.refl _)
   | (with_reducible exact LeO.none _)
   | (with_reducible refine LeO.ite ?_ ?_)
   | (with_reducible refine LeO.bind ?_ (fun _ => ?_))
   | exact ih0 _ _ _ _ _ _
   | exact ih1 _ _ _ _ _ _ _
   | exact ih2 _ _ _ _ _ _ _ _
   | exact ih3 _ _ _ _ _ _ _ _ _ _
   | exact ih4 _ _ _ _ _ _ _ _
   | exact ih5 _ _ _ _ _ _ _ _ _
   | exact send_Ack.mono _ _ _ _ _ _
   | exact send_Push.mono _ _ _ _ _ _ _
   | exact send_Ready.mono _ _ _ _ _
   | exact send_Tick.mono _ _ _ _ _
   | exact withylaw14_Light.mono _ _ _ _ _
   | exact withylaw14_awake.mono _
   | exact withyref14_May.mono _ _ _ _ _
   | exact LeO.none _
   | refine LeO.ite ?_ ?_
   | refine LeO.bind ?_ (fun _ => ?_)
theorem withylaw14_SendNumbers.mono : ∀ a0 a1 a2 a3 a4 k, LeO (withylaw14_SendNumbers.f k a0 a1 a2 a3 a4) (withylaw14_SendNumbers.f (k + 1) a0 a1 a2 a3 a4) := by
 intro a0 a1 a2 a3 a4 k
 obtain ⟨ih0, ih1, ih2, ih3, ih4, ih5⟩ := withylaw14_SendNumbers.mono_l k
 unfold withylaw14_SendNumbers.f
 repeat' first
   | (with_reducible exact ih0 _ _ _ _ _ _)
   | (with_reducible exact ih1 _ _ _ _ _ _ _)
   | (with_reducible exact ih2 _ _ _ _ _ _ _ _)
   | (with_reducible exact ih3 _ _ _ _ _ _ _ _ _ _)
   | (with_reducible exact ih4 _ _ _ _ _ _ _ _)
   | (with_reducible exact ih5 _ _ _ _ _ _ _ _ _)
   | (with_reducible exact send_Ack.mono _ _ _ _ _ _)
   | (with_reducible exact send_Push.mono _ _ _ _ _ _ _)
   | (with_reducible exact send_Ready.mono _ _ _ _ _)
   | (with_reducible exact send_Tick.mono _ _ _ _ _)
   | (with_reducible exact withylaw14_Light.mono _ _ _ _ _)
   | (with_reducible exact withylaw14_awake.mono _)
   | (with_reducible exact withyref14_May.mono _ _ _ _ _)
   | (with_reducible exact LeO.refl _)
   | (with_reducible exact LeO.none _)
   | (with_reducible refine LeO.ite ?_ ?_)
   | (with_reducible refine LeO.bind ?_ (fun _ => ?_))
   | exact ih0 _ _ _ _ _ _
   | exact ih1 _ _ _ _ _ _ _
   | exact ih2 _ _ _ _ _ _ _ _
   | exact ih3 _ _ _ _ _ _ _ _ _ _
   | exact ih4 _ _ _ _ _ _ _ _
   | exact ih5 _ _ _ _ _ _ _ _ _
   | exact send_Ack.mono _ _ _ _ _ _
   | exact send_Push.mono _ _ _ _ _ _ _
   | exact send_Ready.mono _ _ _ _ _
   | exact send_Tick.mono _ _ _ _ _
   | exact withylaw14_Light.mono _ _ _ _ _
   | exact withylaw14_awake.mono _
   | exact withyref14_May.mono _ _ _ _ _
   | exact LeO.none _
   | refine LeO.ite ?_ ?_
   | refine LeO.bind ?_ (fun _ => ?_)
def withylaw14_SendNumbers.T10 : Bool × List (List Nat × List Nat) := (true, [([], []), ([], []), ([1], [1]), ([], []), ([], []), ([3, 4], [3, 4]), ([5], [5]), ([6], [6]), ([2, 7], [2, 7]), ([0, 8], [0, 8]), ([9], [9]), ([10], [10]), ([10], [10]), ([11, 9, 0, 1, 2, 3, 4, 5, 6, 7, 8, 9, 10, 11], [11]), ([12, 13, 0, 1, 2, 3, 4, 5, 6, 7, 8, 9, 10, 11, 12, 13], [12])])
def withylaw14_SendNumbers.B10 : List Nat := [0, 0, 2, 0, 0, 24, 56, 120, 254, 511, 1023, 2047, 2047, 4095, 16383]
theorem withylaw14_SendNumbers.tab10 : rtab .any (opsOf Try.f5 10) = withylaw14_SendNumbers.T10 := by kernel_rfl
theorem withylaw14_SendNumbers.bits10 : waitsOk withylaw14_SendNumbers.T10.2 withylaw14_SendNumbers.B10 = true := by kernel_rfl
def withylaw14_SendNumbers.T29 : Bool × List (List Nat × List Nat) := (true, [([], []), ([0], [0]), ([1], [1]), ([2], [2]), ([2], [2]), ([3, 4, 2], [2, 3, 4]), ([5, 2], [2, 5]), ([6, 2], [2, 6]), ([2], [2]), ([2], [2]), ([9, 2], [2, 9]), ([8, 10, 2], [2, 8, 10]), ([11, 2], [2, 11]), ([12, 2], [2, 12]), ([13, 2], [2, 13]), ([7, 14, 2], [2, 7, 14]), ([2, 15], [2, 15]), ([16, 2], [16]), ([17], [17]), ([17], [17]), ([18, 19, 17], [17, 18, 19]), ([20, 17], [17, 20]), ([21, 17], [17, 21]), ([17], [17]), ([23, 17], [17, 23]), ([22, 24, 17], [17, 22, 24]), ([17, 25], [17, 25]), ([26, 17], [26]), ([27], [27]), ([27], [27]), ([28, 29, 27], [27, 28, 29]), ([30, 27], [27, 30]), ([31, 27], [27, 31]), ([27], [27]), ([33, 27], [27, 33]), ([34, 27], [27, 34]), ([32, 35, 27], [27, 32, 35]), ([27, 36], [27, 36])])
def withylaw14_SendNumbers.B29 : List Nat := [0, 1, 3, 7, 7, 31, 63, 127, 7, 7, 519, 1799, 3847, 7943, 16135, 32767, 65535, 131071, 262143, 262143, 1048575, 2097151, 4194303, 262143, 8650751, 33554431, 67108863, 134217727, 268435455, 268435455, 1073741823, 2147483647, 4294967295, 268435455, 8858370047, 26038239231, 68719476735, 137438953471]
theorem withylaw14_SendNumbers.tab29 : rtab .any (opsOf Try.f5 29) = withylaw14_SendNumbers.T29 := by kernel_rfl
theorem withylaw14_SendNumbers.bits29 : waitsOk withylaw14_SendNumbers.T29.2 withylaw14_SendNumbers.B29 = true := by kernel_rfl
set_option maxHeartbeats 8000000 in
set_option maxRecDepth 100000 in
theorem withylaw14_SendNumbers.calls (k : Nat) (a0_0 : Int) (a0_1 : Int) (P0_2_ : Nat → Prop) (A0_2 : Option Addr) (c0_2 : Nat) (l0_2 : List (List Int)) (a0_3 : Int) (A1 : Option Addr) (c1 : Nat) (l1 : List Int) (r : Bool) (w : World) (hs0_2 : Kd.V (Kd.slice 5 (Kd.int .u8)) 42 w w.heap.size (fun k_ => P0_2_ k_) (.slice A0_2 l0_2.length c0_2) l0_2) (hr1 : Kd.C (Kd.int .i64) w A1 l1.length l1) (hc1 : l1.length ≤ c1) (h : withylaw14_SendNumbers.f k a0_0 a0_1 l0_2 a0_3 l1 = some r) (hr_ : r = true) :
  Calls Try.prog 5 #[.agg #[.int .i64 a0_0, .int .i64 a0_1, .slice A0_2 l0_2.length c0_2, .int .i64 a0_3], .slice A1 l1.length c1] w fun e w' => e = .returned (.bool r) ∧ Below w.heap.size w w' := by
 have hu24 := Try.underlying24
 have HO0_2 := Aside0.mk (show Kd.V (Kd.slice 5 (Kd.int .u8)) 42 w w.heap.size (fun k_ => (P0_2_ k_ ∨ w.heap.size ≤ k_)) (.slice A0_2 l0_2.length c0_2) l0_2 from Kd.V_mono hs0_2 (fun k_ hk => .inl hk))
 have HR1 := Aside0.mk hr1
 have HC1 := Aside0.mk hc1
 clear hr1 hc1
 have HB := Aside0.mk (Below.refl w.heap.size w)
 have H : ((withylaw14_Light.f k a0_0 a0_1 l0_2 a0_3).bind fun t203 => (if t203 = true then ((withyref14_May.f k a0_0 a0_1 l0_2 a0_3).bind fun t204 => (if t204 = true then (withylaw14_SendNumbers.j0 k l1 (decide (a0_0 > 1000000)) a0_0 a0_1 l0_2 a0_3) else (withylaw14_SendNumbers.j0 k l1 true a0_0 a0_1 l0_2 a0_3))) else (withylaw14_SendNumbers.j0 k l1 true a0_0 a0_1 l0_2 a0_3))) = some r := h
 clear h
 have HR_ := Aside0.mk hr_
 clear hr_
 have HC3 := Aside0.mk H
 clear H
 go_enter Try.func5, Try.ntmps5
 go_upto_region 1 with (first | ((with_reducible refine gate_dst (N := 2) rfl ?_); (try (refine gate_guard (by rfl) ?_; dsimp only)); refine box_event ?hg (N := 2) ?hd (cs := #[.int .i64 a0_0, .int .i64 a0_1, .slice A0_2 l0_2.length c0_2, .int .i64 a0_3]) (t := 24) ?hr ?_; (case hd => rfl); (case hg => rfl); (case hr => first | (go_simp; done) | (go_simp; rfl)); intro gb202 hg w4 hbox hb; have n0_ := Aside0.mk (Kd.V_below (Kd.V_elderB (by (with_reducible repeat (first | apply Kd.V_alloc | apply Kd.V_drewN | apply Kd.V_drew)); exact HO0_2.out) gb202 (Nat.le_of_eq hg.symm)) hb); have n1_ := Aside0.mk (below_step (by repeat (first | (with_reducible first | exact HB.out | apply below_alloc | apply pw_below_drewN | apply below_drew1) | exact HB.out)) hb); have n2_ := Aside0.mk (hbox); have n3_ := Aside0.mk ((by rw [hg]; exact (below_size (by repeat (first | (with_reducible first | exact HB.out | apply below_alloc | apply pw_below_drewN | apply below_drew1) | exact HB.out))) : w.heap.size ≤ gb202)); have n4_ := Aside0.mk ((by rw [hg]; exact (below_size (by repeat (first | (with_reducible first | exact HB.out | apply below_alloc | apply pw_below_drewN | apply below_drew1) | exact HB.out))) : w.heap.size ≤ gb202)); clear HO0_2; clear HB; have HO0_2 := n0_; have HB := n1_; have BK202 := n2_; have GW202 := n3_; have GE202 := n4_; clear n0_ n1_ n2_ n3_ n4_; clear hb hbox hg))
 (try simp only [Act.put, List.setIfInBounds_toArray, List.set_cons_zero, List.set_cons_succ])
 go_cut [26] (fun v26 wc => ∃ (kq : Nat) (x26_2 : Bool), v26 = .bool x26_2 ∧ Aside0 (withylaw14_SendNumbers.j0 kq l1 x26_2 a0_0 a0_1 l0_2 a0_3 = some r) ∧ Aside0 (kq ≤ k) ∧ Aside0 (Kd.V (Kd.slice 5 (Kd.int .u8)) 42 wc w.heap.size (fun k_ => (P0_2_ k_ ∨ w.heap.size ≤ k_) ∧ k_ ≠ gb202) (.slice A0_2 l0_2.length c0_2) l0_2) ∧ Aside0 (wc.heap[gb202]? = some (.cells #[.int .i64 a0_0, .int .i64 a0_1, (.slice A0_2 l0_2.length c0_2), .int .i64 a0_3] 24 (0, 0))) ∧ Aside0 (Below w.heap.size w wc))
 case first =>
  have H := HC3.out
  clear HC3
  replace H := Option.bind_eq_some_iff.mp H
  obtain ⟨t203, A50, H⟩ := H
  replace H : (if t203 = true then ((withyref14_May.f k a0_0 a0_1 l0_2 a0_3).bind fun t204 => (if t204 = true then (withylaw14_SendNumbers.j0 k l1 (decide (a0_0 > 1000000)) a0_0 a0_1 l0_2 a0_3) else (withylaw14_SendNumbers.j0 k l1 true a0_0 a0_1 l0_2 a0_3))) else (withylaw14_SendNumbers.j0 k l1 true a0_0 a0_1 l0_2 a0_3)) = some r := H
  have A5 := Aside0.mk A50
  clear A50
  by_cases c6 : t203 = true
  ·subst c6
   have H1 : ((withyref14_May.f k a0_0 a0_1 l0_2 a0_3).bind fun t204 => (if t204 = true then (withylaw14_SendNumbers.j0 k l1 (decide (a0_0 > 1000000)) a0_0 a0_1 l0_2 a0_3) else (withylaw14_SendNumbers.j0 k l1 true a0_0 a0_1 l0_2 a0_3))) = some r := by rw [if_pos rfl] at H; exact H
   clear H
   have H := H1
   clear H1
   replace H := Option.bind_eq_some_iff.mp H
   obtain ⟨t204, A70, H⟩ := H
   replace H : (if t204 = true then (withylaw14_SendNumbers.j0 k l1 (decide (a0_0 > 1000000)) a0_0 a0_1 l0_2 a0_3) else (withylaw14_SendNumbers.j0 k l1 true a0_0 a0_1 l0_2 a0_3)) = some r := H
   have A7 := Aside0.mk A70
   clear A70
   by_cases c8 : t204 = true
   ·subst c8
    have H1 : (withylaw14_SendNumbers.j0 k l1 (decide (a0_0 > 1000000)) a0_0 a0_1 l0_2 a0_3) = some r := by rw [if_pos rfl] at H; exact H
    clear H
    have H := H1
    clear H1
    have H' := Aside0.mk H
    clear H
    have hcz9_0 : w4.cell? ⟨gb202, 0, none⟩ = some (.int .i64 a0_0) := (blk_cell BK202.out 0).trans rfl
    have hcz9_1 : w4.cell? ⟨gb202, 1, none⟩ = some (.int .i64 a0_1) := (blk_cell BK202.out 1).trans rfl
    have hcz9_2 : w4.cell? ⟨gb202, 2, none⟩ = some (.slice A0_2 l0_2.length c0_2) := (blk_cell BK202.out 2).trans rfl
    have hcz9_3 : w4.cell? ⟨gb202, 3, none⟩ = some (.int .i64 a0_3) := (blk_cell BK202.out 3).trans rfl
    have hfz9_0 := blk_frozen BK202.out 0
    have hfz9_1 := blk_frozen BK202.out 1
    have hfz9_2 := blk_frozen BK202.out 2
    have hfz9_3 := blk_frozen BK202.out 3
    go_wp2_with (first | ((with_reducible refine gate_callee (f := 7) rfl ?_); refine goesL_ (some 15) rfl rfl Try.func7 (by kernel_rfl) rfl #[.agg #[.int .i64 a0_0, .int .i64 a0_1, .slice A0_2 l0_2.length c0_2, .int .i64 a0_3]] rfl (by (try simp only [List.map_toArray, List.map_cons, List.map_nil]); first | done | rfl | (simp only [List.length_drop, List.length_take]; rfl)) ?_; (with_reducible refine (withylaw14_Light.calls k a0_0 a0_1 _ _ l0_2 a0_3 true _ ?side1 ?side2 A5.out).mono ?_); (case side1 => repeat (first | exact (Kd.V_reads' HO0_2.out).2.2 | (with_reducible refine Kd.C_alloc ?_ _) | (with_reducible refine Kd.C_drewN ?_ _) | (with_reducible refine Kd.C_drew ?_))); (case side2 => exact (Kd.V_reads' HO0_2.out).2.1); rintro e w10 ⟨rfl, hb⟩; refine ⟨_, rfl, ?_⟩; have n0_ := Aside0.mk (Kd.V_below (by (with_reducible repeat (first | apply Kd.V_alloc | apply Kd.V_drewN | apply Kd.V_drew)); exact HO0_2.out) hb); have n1_ := Aside0.mk (blk_below (g := gb202) (o := .cells #[.int .i64 a0_0, .int .i64 a0_1, .slice A0_2 l0_2.length c0_2, .int .i64 a0_3] 24 (0, 0)) (by (with_reducible repeat (first | refine blk_drewN ?_ _ | refine blk_drew ?_ | refine blk_alloc ?_ _)); exact BK202.out) hb); have n2_ := Aside0.mk (below_step (by repeat (first | (with_reducible first | exact HB.out | apply below_alloc | apply pw_below_drewN | apply below_drew1 | refine below_set ?_ GE202.out) | exact HB.out)) hb); clear HO0_2; clear BK202; clear HB; have HO0_2 := n0_; have BK202 := n1_; have HB := n2_; clear n0_ n1_ n2_; (try clear hb); (try clear hb2); (try clear hk); (try clear hi); have hcz11_0 : w10.cell? ⟨gb202, 0, none⟩ = some (.int .i64 a0_0) := (blk_cell BK202.out 0).trans rfl; have hcz11_1 : w10.cell? ⟨gb202, 1, none⟩ = some (.int .i64 a0_1) := (blk_cell BK202.out 1).trans rfl; have hcz11_2 : w10.cell? ⟨gb202, 2, none⟩ = some (.slice A0_2 l0_2.length c0_2) := (blk_cell BK202.out 2).trans rfl; have hcz11_3 : w10.cell? ⟨gb202, 3, none⟩ = some (.int .i64 a0_3) := (blk_cell BK202.out 3).trans rfl; have hfz11_0 := blk_frozen BK202.out 0; have hfz11_1 := blk_frozen BK202.out 1; have hfz11_2 := blk_frozen BK202.out 2; have hfz11_3 := blk_frozen BK202.out 3) | (go_at_call 10; (with_reducible refine (withyref14_May.calls k a0_0 a0_1 _ _ l0_2 a0_3 true _ ?side1 ?side2 A7.out).mono ?_); (case side1 => repeat (first | exact (Kd.V_reads' HO0_2.out).2.2 | (with_reducible refine Kd.C_alloc ?_ _) | (with_reducible refine Kd.C_drewN ?_ _) | (with_reducible refine Kd.C_drew ?_))); (case side2 => exact (Kd.V_reads' HO0_2.out).2.1); rintro e w12 ⟨rfl, hb⟩; have n0_ := Aside0.mk (Kd.V_below (by (with_reducible repeat (first | apply Kd.V_alloc | apply Kd.V_drewN | apply Kd.V_drew)); exact HO0_2.out) hb); have n1_ := Aside0.mk (blk_below (g := gb202) (o := .cells #[.int .i64 a0_0, .int .i64 a0_1, .slice A0_2 l0_2.length c0_2, .int .i64 a0_3] 24 (0, 0)) (by (with_reducible repeat (first | refine blk_drewN ?_ _ | refine blk_drew ?_ | refine blk_alloc ?_ _)); exact BK202.out) hb); have n2_ := Aside0.mk (below_step (by repeat (first | (with_reducible first | exact HB.out | apply below_alloc | apply pw_below_drewN | apply below_drew1 | refine below_set ?_ GE202.out) | exact HB.out)) hb); clear HO0_2; clear BK202; clear HB; have HO0_2 := n0_; have BK202 := n1_; have HB := n2_; clear n0_ n1_ n2_; (try clear hb); (try clear hb2); (try clear hk); (try clear hi); have hcz13_0 : w12.cell? ⟨gb202, 0, none⟩ = some (.int .i64 a0_0) := (blk_cell BK202.out 0).trans rfl; have hcz13_1 : w12.cell? ⟨gb202, 1, none⟩ = some (.int .i64 a0_1) := (blk_cell BK202.out 1).trans rfl; have hcz13_2 : w12.cell? ⟨gb202, 2, none⟩ = some (.slice A0_2 l0_2.length c0_2) := (blk_cell BK202.out 2).trans rfl; have hcz13_3 : w12.cell? ⟨gb202, 3, none⟩ = some (.int .i64 a0_3) := (blk_cell BK202.out 3).trans rfl; have hfz13_0 := blk_frozen BK202.out 0; have hfz13_1 := blk_frozen BK202.out 1; have hfz13_2 := blk_frozen BK202.out 2; have hfz13_3 := blk_frozen BK202.out 3))
    go_meet
    case rel => exact ⟨_, (decide (a0_0 > 1000000)), (by first | rfl | (simp; done) | (simp [*]; done) | (congr 1; omega) | (simp; omega)), H', ⟨by first | omega | exact Nat.le_refl _⟩, ⟨by (with_reducible repeat (first | apply Kd.V_alloc | apply Kd.V_drewN | apply Kd.V_drew)); exact HO0_2.out⟩, ⟨by (with_reducible repeat (first | refine blk_drewN ?_ _ | refine blk_drew ?_ | refine blk_alloc ?_ _)); exact BK202.out⟩, ⟨by repeat (first | (with_reducible first | exact HB.out | apply below_alloc | apply pw_below_drewN | apply below_drew1 | refine below_set ?_ GE202.out) | exact HB.out)⟩⟩
   ·replace c8 := Bool.eq_false_iff.mpr c8
    subst c8
    have H1 : (withylaw14_SendNumbers.j0 k l1 true a0_0 a0_1 l0_2 a0_3) = some r := by rw [if_neg (show ¬ (false = true) by decide)] at H; exact H
    clear H
    have H := H1
    clear H1
    have H' := Aside0.mk H
    clear H
    have hcz14_0 : w4.cell? ⟨gb202, 0, none⟩ = some (.int .i64 a0_0) := (blk_cell BK202.out 0).trans rfl
    have hcz14_1 : w4.cell? ⟨gb202, 1, none⟩ = some (.int .i64 a0_1) := (blk_cell BK202.out 1).trans rfl
    have hcz14_2 : w4.cell? ⟨gb202, 2, none⟩ = some (.slice A0_2 l0_2.length c0_2) := (blk_cell BK202.out 2).trans rfl
    have hcz14_3 : w4.cell? ⟨gb202, 3, none⟩ = some (.int .i64 a0_3) := (blk_cell BK202.out 3).trans rfl
    have hfz14_0 := blk_frozen BK202.out 0
    have hfz14_1 := blk_frozen BK202.out 1
    have hfz14_2 := blk_frozen BK202.out 2
    have hfz14_3 := blk_frozen BK202.out 3
    go_wp2_with (first | ((with_reducible refine gate_callee (f := 7) rfl ?_); refine goesL_ (some 15) rfl rfl Try.func7 (by kernel_rfl) rfl #[.agg #[.int .i64 a0_0, .int .i64 a0_1, .slice A0_2 l0_2.length c0_2, .int .i64 a0_3]] rfl (by (try simp only [List.map_toArray, List.map_cons, List.map_nil]); first | done | rfl | (simp only [List.length_drop, List.length_take]; rfl)) ?_; (with_reducible refine (withylaw14_Light.calls k a0_0 a0_1 _ _ l0_2 a0_3 true _ ?side1 ?side2 A5.out).mono ?_); (case side1 => repeat (first | exact (Kd.V_reads' HO0_2.out).2.2 | (with_reducible refine Kd.C_alloc ?_ _) | (with_reducible refine Kd.C_drewN ?_ _) | (with_reducible refine Kd.C_drew ?_))); (case side2 => exact (Kd.V_reads' HO0_2.out).2.1); rintro e w15 ⟨rfl, hb⟩; refine ⟨_, rfl, ?_⟩; have n0_ := Aside0.mk (Kd.V_below (by (with_reducible repeat (first | apply Kd.V_alloc | apply Kd.V_drewN | apply Kd.V_drew)); exact HO0_2.out) hb); have n1_ := Aside0.mk (blk_below (g := gb202) (o := .cells #[.int .i64 a0_0, .int .i64 a0_1, .slice A0_2 l0_2.length c0_2, .int .i64 a0_3] 24 (0, 0)) (by (with_reducible repeat (first | refine blk_drewN ?_ _ | refine blk_drew ?_ | refine blk_alloc ?_ _)); exact BK202.out) hb); have n2_ := Aside0.mk (below_step (by repeat (first | (with_reducible first | exact HB.out | apply below_alloc | apply pw_below_drewN | apply below_drew1 | refine below_set ?_ GE202.out) | exact HB.out)) hb); clear HO0_2; clear BK202; clear HB; have HO0_2 := n0_; have BK202 := n1_; have HB := n2_; clear n0_ n1_ n2_; (try clear hb); (try clear hb2); (try clear hk); (try clear hi); have hcz16_0 : w15.cell? ⟨gb202, 0, none⟩ = some (.int .i64 a0_0) := (blk_cell BK202.out 0).trans rfl; have hcz16_1 : w15.cell? ⟨gb202, 1, none⟩ = some (.int .i64 a0_1) := (blk_cell BK202.out 1).trans rfl; have hcz16_2 : w15.cell? ⟨gb202, 2, none⟩ = some (.slice A0_2 l0_2.length c0_2) := (blk_cell BK202.out 2).trans rfl; have hcz16_3 : w15.cell? ⟨gb202, 3, none⟩ = some (.int .i64 a0_3) := (blk_cell BK202.out 3).trans rfl; have hfz16_0 := blk_frozen BK202.out 0; have hfz16_1 := blk_frozen BK202.out 1; have hfz16_2 := blk_frozen BK202.out 2; have hfz16_3 := blk_frozen BK202.out 3) | (go_at_call 10; (with_reducible refine (withyref14_May.calls k a0_0 a0_1 _ _ l0_2 a0_3 false _ ?side1 ?side2 A7.out).mono ?_); (case side1 => repeat (first | exact (Kd.V_reads' HO0_2.out).2.2 | (with_reducible refine Kd.C_alloc ?_ _) | (with_reducible refine Kd.C_drewN ?_ _) | (with_reducible refine Kd.C_drew ?_))); (case side2 => exact (Kd.V_reads' HO0_2.out).2.1); rintro e w17 ⟨rfl, hb⟩; have n0_ := Aside0.mk (Kd.V_below (by (with_reducible repeat (first | apply Kd.V_alloc | apply Kd.V_drewN | apply Kd.V_drew)); exact HO0_2.out) hb); have n1_ := Aside0.mk (blk_below (g := gb202) (o := .cells #[.int .i64 a0_0, .int .i64 a0_1, .slice A0_2 l0_2.length c0_2, .int .i64 a0_3] 24 (0, 0)) (by (with_reducible repeat (first | refine blk_drewN ?_ _ | refine blk_drew ?_ | refine blk_alloc ?_ _)); exact BK202.out) hb); have n2_ := Aside0.mk (below_step (by repeat (first | (with_reducible first | exact HB.out | apply below_alloc | apply pw_below_drewN | apply below_drew1 | refine below_set ?_ GE202.out) | exact HB.out)) hb); clear HO0_2; clear BK202; clear HB; have HO0_2 := n0_; have BK202 := n1_; have HB := n2_; clear n0_ n1_ n2_; (try clear hb); (try clear hb2); (try clear hk); (try clear hi)))
    go_meet
    case rel => exact ⟨_, (true), (by first | rfl | (simp; done) | (simp [*]; done) | (congr 1; omega) | (simp; omega)), H', ⟨by first | omega | exact Nat.le_refl _⟩, ⟨by (with_reducible repeat (first | apply Kd.V_alloc | apply Kd.V_drewN | apply Kd.V_drew)); exact HO0_2.out⟩, ⟨by (with_reducible repeat (first | refine blk_drewN ?_ _ | refine blk_drew ?_ | refine blk_alloc ?_ _)); exact BK202.out⟩, ⟨by repeat (first | (with_reducible first | exact HB.out | apply below_alloc | apply pw_below_drewN | apply below_drew1 | refine below_set ?_ GE202.out) | exact HB.out)⟩⟩
  ·replace c6 := Bool.eq_false_iff.mpr c6
   subst c6
   have H1 : (withylaw14_SendNumbers.j0 k l1 true a0_0 a0_1 l0_2 a0_3) = some r := by rw [if_neg (show ¬ (false = true) by decide)] at H; exact H
   clear H
   have H := H1
   clear H1
   have H' := Aside0.mk H
   clear H
   have hcz18_0 : w4.cell? ⟨gb202, 0, none⟩ = some (.int .i64 a0_0) := (blk_cell BK202.out 0).trans rfl
   have hcz18_1 : w4.cell? ⟨gb202, 1, none⟩ = some (.int .i64 a0_1) := (blk_cell BK202.out 1).trans rfl
   have hcz18_2 : w4.cell? ⟨gb202, 2, none⟩ = some (.slice A0_2 l0_2.length c0_2) := (blk_cell BK202.out 2).trans rfl
   have hcz18_3 : w4.cell? ⟨gb202, 3, none⟩ = some (.int .i64 a0_3) := (blk_cell BK202.out 3).trans rfl
   have hfz18_0 := blk_frozen BK202.out 0
   have hfz18_1 := blk_frozen BK202.out 1
   have hfz18_2 := blk_frozen BK202.out 2
   have hfz18_3 := blk_frozen BK202.out 3
   go_wp2_with (first | ((with_reducible refine gate_callee (f := 7) rfl ?_); refine goesL_ (some 15) rfl rfl Try.func7 (by kernel_rfl) rfl #[.agg #[.int .i64 a0_0, .int .i64 a0_1, .slice A0_2 l0_2.length c0_2, .int .i64 a0_3]] rfl (by (try simp only [List.map_toArray, List.map_cons, List.map_nil]); first | done | rfl | (simp only [List.length_drop, List.length_take]; rfl)) ?_; (with_reducible refine (withylaw14_Light.calls k a0_0 a0_1 _ _ l0_2 a0_3 false _ ?side1 ?side2 A5.out).mono ?_); (case side1 => repeat (first | exact (Kd.V_reads' HO0_2.out).2.2 | (with_reducible refine Kd.C_alloc ?_ _) | (with_reducible refine Kd.C_drewN ?_ _) | (with_reducible refine Kd.C_drew ?_))); (case side2 => exact (Kd.V_reads' HO0_2.out).2.1); rintro e w19 ⟨rfl, hb⟩; refine ⟨_, rfl, ?_⟩; have n0_ := Aside0.mk (Kd.V_below (by (with_reducible repeat (first | apply Kd.V_alloc | apply Kd.V_drewN | apply Kd.V_drew)); exact HO0_2.out) hb); have n1_ := Aside0.mk (blk_below (g := gb202) (o := .cells #[.int .i64 a0_0, .int .i64 a0_1, .slice A0_2 l0_2.length c0_2, .int .i64 a0_3] 24 (0, 0)) (by (with_reducible repeat (first | refine blk_drewN ?_ _ | refine blk_drew ?_ | refine blk_alloc ?_ _)); exact BK202.out) hb); have n2_ := Aside0.mk (below_step (by repeat (first | (with_reducible first | exact HB.out | apply below_alloc | apply pw_below_drewN | apply below_drew1 | refine below_set ?_ GE202.out) | exact HB.out)) hb); clear HO0_2; clear BK202; clear HB; have HO0_2 := n0_; have BK202 := n1_; have HB := n2_; clear n0_ n1_ n2_; (try clear hb); (try clear hb2); (try clear hk); (try clear hi)))
   go_meet
   case rel => exact ⟨_, (true), (by first | rfl | (simp; done) | (simp [*]; done) | (congr 1; omega) | (simp; omega)), H', ⟨by first | omega | exact Nat.le_refl _⟩, ⟨by (with_reducible repeat (first | apply Kd.V_alloc | apply Kd.V_drewN | apply Kd.V_drew)); exact HO0_2.out⟩, ⟨by (with_reducible repeat (first | refine blk_drewN ?_ _ | refine blk_drew ?_ | refine blk_alloc ?_ _)); exact BK202.out⟩, ⟨by repeat (first | (with_reducible first | exact HB.out | apply below_alloc | apply pw_below_drewN | apply below_drew1 | refine below_set ?_ GE202.out) | exact HB.out)⟩⟩
 case rest =>
  clear HC3
  try clear c1; try clear p2; try clear c5; try clear c6; try clear c7; try clear c8; try clear hcz11_0; try clear hcz11_1; try clear hcz11_2; try clear hcz11_3; try clear hcz13_0; try clear hcz13_1; try clear hcz13_2; try clear hcz13_3; try clear hcz14_0; try clear hcz14_1; try clear hcz14_2; try clear hcz14_3; try clear hcz16_0; try clear hcz16_1; try clear hcz16_2; try clear hcz16_3; try clear hcz18_0; try clear hcz18_1; try clear hcz18_2; try clear hcz18_3; try clear hcz9_0; try clear hcz9_1; try clear hcz9_2; try clear hcz9_3; try clear hfz11_0; try clear hfz11_1; try clear hfz11_2; try clear hfz11_3; try clear hfz13_0; try clear hfz13_1; try clear hfz13_2; try clear hfz13_3; try clear hfz14_0; try clear hfz14_1; try clear hfz14_2; try clear hfz14_3; try clear hfz16_0; try clear hfz16_1; try clear hfz16_2; try clear hfz16_3; try clear hfz18_0; try clear hfz18_1; try clear hfz18_2; try clear hfz18_3; try clear hfz9_0; try clear hfz9_1; try clear hfz9_2; try clear hfz9_3
  obtain ⟨kq, x26_2, rfl, HA, HJ2, HO_203002, BK202, HB⟩ := hcut
  cases kq with
  | zero => exact absurd HA.out (by simp [withylaw14_SendNumbers.j0])
  | succ kj2 =>
   have H := HA.out
   clear HA
   simp only [withylaw14_SendNumbers.j0] at H
   by_cases c20 : x26_2 = true
   ·subst c20
    have H1 : ((withylaw14_awake.f kj2).bind fun t205 => (some t205)) = some r := by rw [if_pos rfl] at H; exact H
    clear H
    have H := H1
    clear H1
    replace H := Option.bind_eq_some_iff.mp H
    obtain ⟨t205, A210, H⟩ := H
    replace H : (some t205) = some r := H
    have A21 := Aside0.mk A210
    clear A210
    obtain rfl := Option.some.inj H
    go_wp2_with (first | ((with_reducible refine gate_callee (f := 8) rfl ?_); refine goesL_ (some 27) rfl rfl Try.func8 (by kernel_rfl) rfl #[] rfl (by (try simp only [List.map_toArray, List.map_cons, List.map_nil]); first | done | rfl | (simp only [List.length_drop, List.length_take]; rfl)) ?_; (with_reducible refine (withylaw14_awake.calls kj2  t205 _ A21.out).mono ?_); rintro e w22 ⟨rfl, hb⟩; refine ⟨_, rfl, ?_⟩; have n0_ := Aside0.mk (Kd.V_below (by (with_reducible repeat (first | apply Kd.V_alloc | apply Kd.V_drewN | apply Kd.V_drew)); exact HO_203002.out) hb); have n1_ := Aside0.mk (blk_below (g := gb202) (o := .cells #[.int .i64 a0_0, .int .i64 a0_1, .slice A0_2 l0_2.length c0_2, .int .i64 a0_3] 24 (0, 0)) (by (with_reducible repeat (first | refine blk_drewN ?_ _ | refine blk_drew ?_ | refine blk_alloc ?_ _)); exact BK202.out) hb); have n2_ := Aside0.mk (below_step (by repeat (first | (with_reducible first | exact HB.out | apply below_alloc | apply pw_below_drewN | apply below_drew1 | refine below_set ?_ GE202.out) | exact HB.out)) hb); clear HO_203002; clear BK202; clear HB; have HO_203002 := n0_; have BK202 := n1_; have HB := n2_; clear n0_ n1_ n2_; (try clear hb); (try clear hb2); (try clear hk); (try clear hi)))
    go_ret
    exact ⟨by first | rfl | (simp [errW_none, errW_some] <;> rfl) | (simp [*, errW_none, errW_some] <;> rfl), by repeat (first | (with_reducible first | exact HB.out | apply below_alloc | apply pw_below_drewN | apply below_drew1 | refine below_set ?_ GE202.out) | exact HB.out)⟩
   ·replace c20 := Bool.eq_false_iff.mpr c20
    subst c20
    have H1 : (withylaw14_SendNumbers.l0 kj2 l1 (l0_2.length : Int) 0 a0_0 a0_1 l0_2 a0_3) = some r := by rw [if_neg (show ¬ (false = true) by decide)] at H; exact H
    clear H
    have H := H1
    clear H1
    have H' := Aside0.mk H
    clear H
    have hcz23_0 : wc.cell? ⟨gb202, 0, none⟩ = some (.int .i64 a0_0) := (blk_cell BK202.out 0).trans rfl
    have hcz23_1 : wc.cell? ⟨gb202, 1, none⟩ = some (.int .i64 a0_1) := (blk_cell BK202.out 1).trans rfl
    have hcz23_2 : wc.cell? ⟨gb202, 2, none⟩ = some (.slice A0_2 l0_2.length c0_2) := (blk_cell BK202.out 2).trans rfl
    have hcz23_3 : wc.cell? ⟨gb202, 3, none⟩ = some (.int .i64 a0_3) := (blk_cell BK202.out 3).trans rfl
    have hfz23_0 := blk_frozen BK202.out 0
    have hfz23_1 := blk_frozen BK202.out 1
    have hfz23_2 := blk_frozen BK202.out 2
    have hfz23_3 := blk_frozen BK202.out 3
    go_wp2
    go_loopg [5, 6] kj2 (fun kq v5 v6 w' => ∃ (x5_2 : Int) (x6_2 : Int) (x203000_2 : Int) (x203001_2 : Int) (x203002_2 : List (List Int)) (x203003_2 : Int) (u203002 : Value), v5 = .int .i64 x5_2 ∧ v6 = .int .i64 x6_2 ∧ Aside0 (withylaw14_SendNumbers.l0 kq l1 x5_2 x6_2 x203000_2 x203001_2 x203002_2 x203003_2 = some r) ∧ Aside0 (kq ≤ kj2) ∧ Aside0 (Kd.V (Kd.slice 5 (Kd.int .u8)) 42 w' w.heap.size (fun k_ => (P0_2_ k_ ∨ w.heap.size ≤ k_) ∧ k_ ≠ gb202) u203002 x203002_2) ∧ Aside0 (w'.heap[gb202]? = some (.cells #[.int .i64 x203000_2, .int .i64 x203001_2, u203002, .int .i64 x203003_2] 24 (0, 0))) ∧ Aside0 (Below w.heap.size w w'))
    case atStart => exact ⟨((l0_2.length : Int)), (0), (a0_0), (a0_1), (l0_2), (a0_3), (.slice A0_2 l0_2.length c0_2), (by first | rfl | (simp; done) | (simp [*]; done) | (congr 1; omega) | (simp; omega)), (by first | rfl | (simp; done) | (simp [*]; done) | (congr 1; omega) | (simp; omega)), H', ⟨Nat.le_refl _⟩, ⟨by (with_reducible repeat (first | apply Kd.V_alloc | apply Kd.V_drewN | apply Kd.V_drew)); exact HO_203002.out⟩, ⟨by (with_reducible repeat (first | refine blk_drewN ?_ _ | refine blk_drew ?_ | refine blk_alloc ?_ _)); exact BK202.out⟩, ⟨by repeat (first | (with_reducible first | exact HB.out | apply below_alloc | apply pw_below_drewN | apply below_drew1 | refine below_set ?_ GE202.out) | exact HB.out)⟩⟩
    case round =>
     clear H'
     try clear c1; try clear c2; try clear p2; try clear c5; try clear c6; try clear c7; try clear c8; try clear c20; try clear hcz11_0; try clear hcz11_1; try clear hcz11_2; try clear hcz11_3; try clear hcz13_0; try clear hcz13_1; try clear hcz13_2; try clear hcz13_3; try clear hcz14_0; try clear hcz14_1; try clear hcz14_2; try clear hcz14_3; try clear hcz16_0; try clear hcz16_1; try clear hcz16_2; try clear hcz16_3; try clear hcz18_0; try clear hcz18_1; try clear hcz18_2; try clear hcz18_3; try clear hcz23_0; try clear hcz23_1; try clear hcz23_2; try clear hcz23_3; try clear hcz9_0; try clear hcz9_1; try clear hcz9_2; try clear hcz9_3; try clear hfz11_0; try clear hfz11_1; try clear hfz11_2; try clear hfz11_3; try clear hfz13_0; try clear hfz13_1; try clear hfz13_2; try clear hfz13_3; try clear hfz14_0; try clear hfz14_1; try clear hfz14_2; try clear hfz14_3; try clear hfz16_0; try clear hfz16_1; try clear hfz16_2; try clear hfz16_3; try clear hfz18_0; try clear hfz18_1; try clear hfz18_2; try clear hfz18_3; try clear hfz23_0; try clear hfz23_1; try clear hfz23_2; try clear hfz23_3; try clear hfz9_0; try clear hfz9_1; try clear hfz9_2; try clear hfz9_3; try clear p2
     obtain ⟨x5_2, x6_2, x203000_2, x203001_2, x203002_2, x203003_2, u203002, rfl, rfl, HA, HK2, HO_203002, BK202, HB⟩ := hrel
     cases gk with
     | zero => exact absurd HA.out (by simp [withylaw14_SendNumbers.l0])
     | succ k2 =>
      have H := HA.out
      clear HA
      simp only [withylaw14_SendNumbers.l0] at H
      have HC24 := Aside0.mk H
      clear H
      go_upto_region 5 with (fail)
      go_cut [38] (fun v38 wc => ∃ (kq : Nat) (x38_23 : Bool), v38 = .bool x38_23 ∧ Aside0 (withylaw14_SendNumbers.j2 kq l1 x5_2 x6_2 x38_23 x203000_2 x203001_2 x203002_2 x203003_2 = some r) ∧ Aside0 (kq ≤ k2) ∧ Aside0 (Kd.V (Kd.slice 5 (Kd.int .u8)) 42 wc w.heap.size (fun k_ => (P0_2_ k_ ∨ w.heap.size ≤ k_) ∧ k_ ≠ gb202) u203002 x203002_2) ∧ Aside0 (wc.heap[gb202]? = some (.cells #[.int .i64 x203000_2, .int .i64 x203001_2, u203002, .int .i64 x203003_2] 24 (0, 0))) ∧ Aside0 (Below w.heap.size w wc))
      case first =>
       have H := HC24.out
       clear HC24
       by_cases c25 : x6_2 < (l1.length : Int)
       ·rw [if_pos c25] at H
        have c25b0 : decide (x6_2 < (l1.length : Int)) = true := decide_eq_true c25
        clear c25
        (first | rw [c25b0] | (simp only [i64_w, i32_w]; rw [c25b0]) | skip)
        have H' := Aside0.mk H
        clear H
        go_wp2
        go_meet
        case rel => exact ⟨_, (decide (x6_2 < 60)), (by first | rfl | (simp; done) | (simp [*]; done) | (congr 1; omega) | (simp; omega)), H', ⟨by have := HJ2.out; have := HK2.out; first | omega | exact Nat.le_refl _⟩, ⟨by (with_reducible repeat (first | apply Kd.V_alloc | apply Kd.V_drewN | apply Kd.V_drew)); exact HO_203002.out⟩, ⟨by (with_reducible repeat (first | refine blk_drewN ?_ _ | refine blk_drew ?_ | refine blk_alloc ?_ _)); exact BK202.out⟩, ⟨by repeat (first | (with_reducible first | exact HB.out | apply below_alloc | apply pw_below_drewN | apply below_drew1 | refine below_set ?_ GE202.out) | exact HB.out)⟩⟩
       ·rw [if_neg c25] at H
        have c25b0 : decide (x6_2 < (l1.length : Int)) = false := decide_eq_false c25
        clear c25
        (first | rw [c25b0] | (simp only [i64_w, i32_w]; rw [c25b0]) | skip)
        have H' := Aside0.mk H
        clear H
        go_wp2
        go_meet
        case rel => exact ⟨_, (false), (by first | rfl | (simp; done) | (simp [*]; done) | (congr 1; omega) | (simp; omega)), H', ⟨by have := HJ2.out; have := HK2.out; first | omega | exact Nat.le_refl _⟩, ⟨by (with_reducible repeat (first | apply Kd.V_alloc | apply Kd.V_drewN | apply Kd.V_drew)); exact HO_203002.out⟩, ⟨by (with_reducible repeat (first | refine blk_drewN ?_ _ | refine blk_drew ?_ | refine blk_alloc ?_ _)); exact BK202.out⟩, ⟨by repeat (first | (with_reducible first | exact HB.out | apply below_alloc | apply pw_below_drewN | apply below_drew1 | refine below_set ?_ GE202.out) | exact HB.out)⟩⟩
      case rest =>
       clear HC24
       try clear c1; try clear c2; try clear p2; try clear c5; try clear c6; try clear c7; try clear c8; try clear c20; try clear c25; try clear c25b0; try clear hcz11_0; try clear hcz11_1; try clear hcz11_2; try clear hcz11_3; try clear hcz13_0; try clear hcz13_1; try clear hcz13_2; try clear hcz13_3; try clear hcz14_0; try clear hcz14_1; try clear hcz14_2; try clear hcz14_3; try clear hcz16_0; try clear hcz16_1; try clear hcz16_2; try clear hcz16_3; try clear hcz18_0; try clear hcz18_1; try clear hcz18_2; try clear hcz18_3; try clear hcz23_0; try clear hcz23_1; try clear hcz23_2; try clear hcz23_3; try clear hcz9_0; try clear hcz9_1; try clear hcz9_2; try clear hcz9_3; try clear hfz11_0; try clear hfz11_1; try clear hfz11_2; try clear hfz11_3; try clear hfz13_0; try clear hfz13_1; try clear hfz13_2; try clear hfz13_3; try clear hfz14_0; try clear hfz14_1; try clear hfz14_2; try clear hfz14_3; try clear hfz16_0; try clear hfz16_1; try clear hfz16_2; try clear hfz16_3; try clear hfz18_0; try clear hfz18_1; try clear hfz18_2; try clear hfz18_3; try clear hfz23_0; try clear hfz23_1; try clear hfz23_2; try clear hfz23_3; try clear hfz9_0; try clear hfz9_1; try clear hfz9_2; try clear hfz9_3; try clear p2
       obtain ⟨kq, x38_23, rfl, HA, HJ23, HO_203002, BK202, HB⟩ := hcut
       cases kq with
       | zero => exact absurd HA.out (by simp [withylaw14_SendNumbers.j2])
       | succ kj23 =>
        have H := HA.out
        clear HA
        simp only [withylaw14_SendNumbers.j2] at H
        by_cases c26 : x38_23 = true
        ·subst c26
         have H1 : ((some (([] : List (S44)) : List (S44))).bind fun y207 => (if 0 ≤ x6_2 then (if x6_2 < (l1.length : Int) then (if (rd l1 x6_2) = (-1) then ((send_Ready.f kj23 x203000_2 x203001_2 x203002_2 x203003_2).bind fun bt211 => (withylaw14_SendNumbers.j3 kj23 l1 x5_2 x6_2 bt211.2.2.2.2.1 bt211.2.2.2.2.2 x203000_2 bt211.1 bt211.2.1 bt211.2.2.1 bt211.2.2.2.1)) else (if (rd l1 x6_2) < 0 then ((send_Tick.f kj23 x203000_2 x203001_2 x203002_2 x203003_2).bind fun bt222 => (withylaw14_SendNumbers.j3 kj23 l1 x5_2 x6_2 bt222.2.2.2.2.1 bt222.2.2.2.2.2 x203000_2 bt222.1 bt222.2.1 bt222.2.2.1 bt222.2.2.2.1)) else (if (rd l1 x6_2) = 0 then ((send_Push.f kj23 x203000_2 x203001_2 x203002_2 x203003_2 (([1] : List Int)) 2147483647).bind fun bt236 => (if (x203002_2.length : Int) < 256 then (withylaw14_SendNumbers.j3 kj23 l1 (wrap64 (x5_2 + 1)) x6_2 y207 0 x203000_2 bt236.1 bt236.2.1 bt236.2.2.1 bt236.2.2.2.1) else (if bt236.2.2.2.2 = 2 then (withylaw14_SendNumbers.j3 kj23 l1 x5_2 x6_2 y207 0 x203000_2 x203000_2 x203001_2 x203002_2 x203003_2) else (some false)))) else ((send_Ack.f kj23 x203000_2 x203001_2 x203002_2 x203003_2 (wrap64 (x203000_2 + (Int.tmod (rd l1 x6_2) 20)))).bind fun bt245 => (withylaw14_SendNumbers.j3 kj23 l1 x5_2 x6_2 y207 bt245.2.2.2.2 x203000_2 bt245.1 bt245.2.1 bt245.2.2.1 bt245.2.2.2.1))))) else (none)) else (none))) = some r := by rw [if_pos rfl] at H; exact H
         clear H
         have H := H1
         clear H1
         obtain ⟨y207, hy207⟩ : ∃ y_ : List (S44), y_ = (([] : List (S44))) := ⟨_, rfl⟩
         replace H : (if 0 ≤ x6_2 then (if x6_2 < (l1.length : Int) then (if (rd l1 x6_2) = (-1) then ((send_Ready.f kj23 x203000_2 x203001_2 x203002_2 x203003_2).bind fun bt211 => (withylaw14_SendNumbers.j3 kj23 l1 x5_2 x6_2 bt211.2.2.2.2.1 bt211.2.2.2.2.2 x203000_2 bt211.1 bt211.2.1 bt211.2.2.1 bt211.2.2.2.1)) else (if (rd l1 x6_2) < 0 then ((send_Tick.f kj23 x203000_2 x203001_2 x203002_2 x203003_2).bind fun bt222 => (withylaw14_SendNumbers.j3 kj23 l1 x5_2 x6_2 bt222.2.2.2.2.1 bt222.2.2.2.2.2 x203000_2 bt222.1 bt222.2.1 bt222.2.2.1 bt222.2.2.2.1)) else (if (rd l1 x6_2) = 0 then ((send_Push.f kj23 x203000_2 x203001_2 x203002_2 x203003_2 (([1] : List Int)) 2147483647).bind fun bt236 => (if (x203002_2.length : Int) < 256 then (withylaw14_SendNumbers.j3 kj23 l1 (wrap64 (x5_2 + 1)) x6_2 y207 0 x203000_2 bt236.1 bt236.2.1 bt236.2.2.1 bt236.2.2.2.1) else (if bt236.2.2.2.2 = 2 then (withylaw14_SendNumbers.j3 kj23 l1 x5_2 x6_2 y207 0 x203000_2 x203000_2 x203001_2 x203002_2 x203003_2) else (some false)))) else ((send_Ack.f kj23 x203000_2 x203001_2 x203002_2 x203003_2 (wrap64 (x203000_2 + (Int.tmod (rd l1 x6_2) 20)))).bind fun bt245 => (withylaw14_SendNumbers.j3 kj23 l1 x5_2 x6_2 y207 bt245.2.2.2.2 x203000_2 bt245.1 bt245.2.1 bt245.2.2.1 bt245.2.2.2.1))))) else (none)) else (none)) = some r := by first | (rw [hy207]; with_reducible exact H) | (have H2_ := (Option.bind_some _ _).symm.trans H; rw [hy207]; with_reducible exact H2_) | (have H2_ := (Option.bind_some _ _).symm.trans H; with_reducible exact H2_) | with_reducible exact H | (rw [hy207]; exact H) | exact H
         have Ny207 := Aside0.mk hy207
         clear hy207
         have HC27 := Aside0.mk H
         clear H
         go_upto_block 2 with (first | ((with_reducible refine gate_dst (N := 41) rfl ?_); (try (refine gate_guard (by rfl) ?_; dsimp only)); refine Kd.S_lit k44 _ 44 ?hg (N := 41) ?hd (xs := ([] : List (S44))) (inner := []) (ok := fun _ => True) (okp := fun _ => True) ?hr ?hp (fun _ hk => hk) trivial (Below.refl _ _) (Nat.le_refl _) (by simp) ?_; (case hd => rfl); (case hg => rfl); (case hr => first | (go_simp; done) | (go_simp; rfl)); (case hp => exact (Reps.none _ _)); intro v208 w28 ho29 hb hg_ hnew_; clear hg_ hnew_; (first | rw [← Ny207.out] at ho29 | (simp only [Int.reduceToNat] at ho29; rw [← Ny207.out] at ho29)); have n0_ := Aside0.mk (Kd.V_elder' (by (with_reducible repeat (first | apply Kd.V_alloc | apply Kd.V_drewN | apply Kd.V_drew)); exact HO_203002.out) (Kd.S_base ho29) hb); have n1_ := Aside0.mk (Kd.S_lower (Kd.S_newM (M := fun k_ => (w.heap.size ≤ k_)) ho29 (below_size (by repeat (first | (with_reducible first | exact HB.out | apply below_alloc | apply pw_below_drewN | apply below_drew1 | refine below_set ?_ GE202.out) | exact HB.out))) (fun k_ h_ => h_)) (below_size (by repeat (first | (with_reducible first | exact HB.out | apply below_alloc | apply pw_below_drewN | apply below_drew1 | refine below_set ?_ GE202.out) | exact HB.out)))); have n2_ := Aside0.mk (blk_below (g := gb202) (o := .cells #[.int .i64 x203000_2, .int .i64 x203001_2, u203002, .int .i64 x203003_2] 24 (0, 0)) (by (with_reducible repeat (first | refine blk_drewN ?_ _ | refine blk_drew ?_ | refine blk_alloc ?_ _)); exact BK202.out) hb); have n3_ := Aside0.mk (below_step (by repeat (first | (with_reducible first | exact HB.out | apply below_alloc | apply pw_below_drewN | apply below_drew1 | refine below_set ?_ GE202.out) | exact HB.out)) hb); clear HO_203002; clear BK202; clear HB; have HO_203002 := n0_; have HO209 := n1_; have BK202 := n2_; have HB := n3_; clear n0_ n1_ n2_ n3_; clear hb ho29; have hcz30_0 : w28.cell? ⟨gb202, 0, none⟩ = some (.int .i64 x203000_2) := (blk_cell BK202.out 0).trans rfl; have hcz30_1 : w28.cell? ⟨gb202, 1, none⟩ = some (.int .i64 x203001_2) := (blk_cell BK202.out 1).trans rfl; have hcz30_2 : w28.cell? ⟨gb202, 2, none⟩ = some (u203002) := (blk_cell BK202.out 2).trans rfl; have hcz30_3 : w28.cell? ⟨gb202, 3, none⟩ = some (.int .i64 x203003_2) := (blk_cell BK202.out 3).trans rfl; have hfz30_0 := blk_frozen BK202.out 0; have hfz30_1 := blk_frozen BK202.out 1; have hfz30_2 := blk_frozen BK202.out 2; have hfz30_3 := blk_frozen BK202.out 3))
         (try simp only [Act.put, List.setIfInBounds_toArray, List.set_cons_zero, List.set_cons_succ])
         go_cut [5, 7, 8] (fun v5 v7 v8 wc => ∃ (kq : Nat) (x5_26 : Int) (x7_26 : List (S44)) (x8_26 : Int) (x203000_26 : Int) (x203001_26 : Int) (x203002_26 : List (List Int)) (x203003_26 : Int) (u203002 : Value), v5 = .int .i64 x5_26 ∧ v8 = .int .i64 x8_26 ∧ Aside0 (withylaw14_SendNumbers.j3 kq l1 x5_26 x6_2 x7_26 x8_26 x203000_2 x203000_26 x203001_26 x203002_26 x203003_26 = some r) ∧ Aside0 (kq ≤ kj23) ∧ Aside0 (Kd.S k44 44 wc w.heap.size (fun k_ => (w.heap.size ≤ k_)) v7 x7_26) ∧ Aside0 (Kd.V (Kd.slice 5 (Kd.int .u8)) 42 wc w.heap.size (fun k_ => (P0_2_ k_ ∨ w.heap.size ≤ k_) ∧ some k_ ≠ (v7 : Value).ownBlock ∧ k_ ≠ gb202) u203002 x203002_26) ∧ Aside0 (wc.heap[gb202]? = some (.cells #[.int .i64 x203000_26, .int .i64 x203001_26, u203002, .int .i64 x203003_26] 24 (0, 0))) ∧ Aside0 (Below w.heap.size w wc))
         case first =>
          have H := HC27.out
          clear HC27
          by_cases c31 : 0 ≤ x6_2
          ·rw [if_pos c31] at H
           have c31b0 : decide (0 ≤ x6_2) = true := decide_eq_true c31
           clear c31
           (first | rw [c31b0] | (simp only [i64_w, i32_w]; rw [c31b0]) | skip)
           by_cases c32 : x6_2 < (l1.length : Int)
           ·rw [if_pos c32] at H
            have c32b0 : decide (x6_2 < (l1.length : Int)) = true := decide_eq_true c32
            clear c32
            by_cases c33 : (rd l1 x6_2) = (-1)
            ·rw [if_pos c33] at H
             have c33b0 : ((rd l1 x6_2) == (-1)) = true := beq_iff_eq.mpr c33
             have c33b1 : ((rd l1 x6_2) != (-1)) = false := bne_eq_false_iff_eq.mpr c33
             clear c33
             replace H := Option.bind_eq_some_iff.mp H
             obtain ⟨⟨t211, t212, t213, t216, t217, t220⟩, A340, H⟩ := H
             replace H : (withylaw14_SendNumbers.j3 kj23 l1 x5_2 x6_2 t217 t220 x203000_2 t211 t212 t213 t216) = some r := H
             have A34 := Aside0.mk A340
             clear A340
             have H' := Aside0.mk H
             clear H
             have p210 : 0 ≤ (x6_2 : Int) := of_decide_eq_true (by first | (with_reducible assumption) | assumption)
             have q210 : x6_2 < (l1.length : Int) := of_decide_eq_true (by first | (with_reducible assumption) | assumption)
             obtain ⟨ad210, e210, hx210_0⟩ := Kd.at_int HR1.out x6_2 p210 q210
             cases e210
             replace hx210_0 := (HB.out.cell (World.block_lt_of_cell? w _ hx210_0)).trans hx210_0
             replace p210 := eq_true p210
             replace q210 := eq_true q210
             have hcz35_0 : w28.cell? ⟨gb202, 0, none⟩ = some (.int .i64 x203000_2) := (blk_cell BK202.out 0).trans rfl
             have hcz35_1 : w28.cell? ⟨gb202, 1, none⟩ = some (.int .i64 x203001_2) := (blk_cell BK202.out 1).trans rfl
             have hcz35_2 : w28.cell? ⟨gb202, 2, none⟩ = some (u203002) := (blk_cell BK202.out 2).trans rfl
             have hcz35_3 : w28.cell? ⟨gb202, 3, none⟩ = some (.int .i64 x203003_2) := (blk_cell BK202.out 3).trans rfl
             have hfz35_0 := blk_frozen BK202.out 0
             have hfz35_1 := blk_frozen BK202.out 1
             have hfz35_2 := blk_frozen BK202.out 2
             have hfz35_3 := blk_frozen BK202.out 3
             obtain ⟨Ao36, co36, eo36⟩ := Kd.V_slice HO_203002.out
             subst eo36
             go_wp2_with (first | ((with_reducible refine gate_callee (f := 13) rfl ?_); refine goesL_ (some 65) rfl rfl Try.func13 (by kernel_rfl) rfl #[.agg #[.int .i64 x203000_2, .int .i64 x203001_2, .slice Ao36 x203002_2.length co36, .int .i64 x203003_2]] rfl (by (try simp only [List.map_toArray, List.map_cons, List.map_nil]); first | done | rfl | (simp only [List.length_drop, List.length_take]; rfl)) ?_; (with_reducible refine (send_Ready.calls kj23 x203000_2 x203001_2 _ _ x203002_2 x203003_2 t211 t212 t213 t216 t217 t220 _ ?side1 ?side2 A34.out).mono ?_); (case side1 => repeat (first | exact (Kd.V_reads' HO_203002.out).2.2 | (with_reducible refine Kd.C_alloc ?_ _) | (with_reducible refine Kd.C_drewN ?_ _) | (with_reducible refine Kd.C_drew ?_))); (case side2 => exact (Kd.V_reads' HO_203002.out).2.1); rintro e w37 ⟨v214, v218, rfl, ho0, ho1, hb⟩; refine ⟨_, rfl, ?_⟩; have n0_ := Aside0.mk (Kd.V_mono (Kd.V_told (Kd.V_told (Kd.V_old (by (with_reducible repeat (first | apply Kd.V_alloc | apply Kd.V_drewN | apply Kd.V_drew)); exact HO_203002.out) hb) (Kd.S_base ho0)) (Kd.S_base ho1)) (fun _ h_ => h_.1)); have n1_ := Aside0.mk (Kd.S_elder' (by (with_reducible repeat (first | apply Kd.S_alloc | apply Kd.S_drewN | apply Kd.S_drew)); exact HO209.out) (Kd.S_base ho1) hb); have n2_ := Aside0.mk (Kd.S_lower (Kd.S_newM (M := fun k_ => (w.heap.size ≤ k_)) ho0 (below_size (by repeat (first | (with_reducible first | exact HB.out | apply below_alloc | apply pw_below_drewN | apply below_drew1 | refine below_set ?_ GE202.out) | exact HB.out))) (fun k_ h_ => h_)) (below_size (by repeat (first | (with_reducible first | exact HB.out | apply below_alloc | apply pw_below_drewN | apply below_drew1 | refine below_set ?_ GE202.out) | exact HB.out)))); have n3_ := Aside0.mk (Kd.S_lower (Kd.S_new' (Kd.S_newM (M := fun k_ => (w.heap.size ≤ k_)) ho1 (below_size (by repeat (first | (with_reducible first | exact HB.out | apply below_alloc | apply pw_below_drewN | apply below_drew1 | refine below_set ?_ GE202.out) | exact HB.out))) (fun k_ h_ => h_)) (Kd.S_lt (by (with_reducible repeat (first | apply Kd.S_alloc | apply Kd.S_drewN | apply Kd.S_drew)); exact HO209.out))) (below_size (by repeat (first | (with_reducible first | exact HB.out | apply below_alloc | apply pw_below_drewN | apply below_drew1 | refine below_set ?_ GE202.out) | exact HB.out)))); have n4_ := Aside0.mk (blk_below (g := gb202) (o := .cells #[.int .i64 x203000_2, .int .i64 x203001_2, .slice Ao36 x203002_2.length co36, .int .i64 x203003_2] 24 (0, 0)) (by (with_reducible repeat (first | refine blk_drewN ?_ _ | refine blk_drew ?_ | refine blk_alloc ?_ _)); exact BK202.out) hb); have n5_ := Aside0.mk (below_step (by repeat (first | (with_reducible first | exact HB.out | apply below_alloc | apply pw_below_drewN | apply below_drew1 | refine below_set ?_ GE202.out) | exact HB.out)) hb); clear HO_203002; clear HO209; clear BK202; clear HB; have HO_203002 := n0_; have HO209 := n1_; have HO215 := n2_; have HO219 := n3_; have BK202 := n4_; have HB := n5_; clear n0_ n1_ n2_ n3_ n4_ n5_; (try clear hb); (try clear hb2); (try clear hk); (try clear hi); (try clear ho0); (try clear ho1); have hcz38_0 : w37.cell? ⟨gb202, 0, none⟩ = some (.int .i64 x203000_2) := (blk_cell BK202.out 0).trans rfl; have hcz38_1 : w37.cell? ⟨gb202, 1, none⟩ = some (.int .i64 x203001_2) := (blk_cell BK202.out 1).trans rfl; have hcz38_2 : w37.cell? ⟨gb202, 2, none⟩ = some (.slice Ao36 x203002_2.length co36) := (blk_cell BK202.out 2).trans rfl; have hcz38_3 : w37.cell? ⟨gb202, 3, none⟩ = some (.int .i64 x203003_2) := (blk_cell BK202.out 3).trans rfl; have hfz38_0 := blk_frozen BK202.out 0; have hfz38_1 := blk_frozen BK202.out 1; have hfz38_2 := blk_frozen BK202.out 2; have hfz38_3 := blk_frozen BK202.out 3; obtain ⟨Ao39, co39, eo39⟩ := Kd.S_slice HO215.out; subst eo39) | ((with_reducible refine gate_store (t := 24) (p := 2) rfl ?_); refine store_event (t := 24) (p := 2) (v := ?vo_w40) (w1 := ((((w37.setCell ⟨gb202, 0, none⟩ (.int .i64 t211)).setCell ⟨gb202, 1, none⟩ (.int .i64 t212)).setCell ⟨gb202, 2, none⟩ (.slice Ao39 t213.length co39)).setCell ⟨gb202, 3, none⟩ (.int .i64 t216))) ?hg ?ho ?hn ?hr ?_; (case ho => rfl); (case hg => rfl); (case hn => rfl); (case hr => first | (go_simp; done) | (go_simp; rfl)); intro w40 hw; have n0_ : Aside0 (Kd.V (Kd.slice 5 (Kd.int .u8)) 42 w40 w.heap.size (fun k_ => (P0_2_ k_ ∨ w.heap.size ≤ k_) ∧ some k_ ≠ (v208 : Value).ownBlock ∧ some k_ ≠ (.slice Ao39 t213.length co39 : Value).ownBlock ∧ some k_ ≠ (v218 : Value).ownBlock ∧ k_ ≠ gb202) (.slice Ao36 x203002_2.length co36) x203002_2) := ⟨(by rw [hw]; exact (by (with_reducible repeat (first | apply Kd.V_alloc | apply Kd.V_drewN | apply Kd.V_drew)); exact Kd.V_mono (Kd.V_far (p := ⟨gb202, 3, none⟩) (Kd.V_far (p := ⟨gb202, 2, none⟩) (Kd.V_far (p := ⟨gb202, 1, none⟩) (Kd.V_far (p := ⟨gb202, 0, none⟩) (Kd.V_mono HO_203002.out (fun k_ hk => (⟨hk, hk.1.1.1.2⟩ : _ ∧ k_ ≠ gb202))) (fun _ hk => hk.2) (.int .i64 t211)) (fun _ hk => hk.2) (.int .i64 t212)) (fun _ hk => hk.2) (.slice Ao39 t213.length co39)) (fun _ hk => hk.2) (.int .i64 t216)) (fun _ hk => ⟨hk.1.1.1.1.1, ⟨hk.1.1.1.2, ⟨hk.1.1.2, ⟨hk.1.2, hk.1.1.1.1.2⟩⟩⟩⟩)))⟩; have n1_ : Aside0 (Kd.S k44 44 w40 w.heap.size (fun k_ => (w.heap.size ≤ k_) ∧ some k_ ≠ (v218 : Value).ownBlock) v208 y207) := ⟨(by rw [hw]; exact (by (with_reducible repeat (first | apply Kd.S_alloc | apply Kd.S_drewN | apply Kd.S_drew)); exact Kd.S_mono (Kd.S_far (p := ⟨gb202, 3, none⟩) (Kd.S_far (p := ⟨gb202, 2, none⟩) (Kd.S_far (p := ⟨gb202, 1, none⟩) (Kd.S_far (p := ⟨gb202, 0, none⟩) (Kd.S_types HO209.out BK202.out (by decide)) (fun _ hk => hk.2) (.int .i64 t211)) (fun _ hk => hk.2) (.int .i64 t212)) (fun _ hk => hk.2) (.slice Ao39 t213.length co39)) (fun _ hk => hk.2) (.int .i64 t216)) (fun _ hk => ⟨hk.1.1.1, hk.1.2⟩)))⟩; have n2_ : Aside0 (Kd.S (Kd.slice 5 (Kd.int .u8)) 42 w40 w.heap.size (fun k_ => (w.heap.size ≤ k_)) (.slice Ao39 t213.length co39) t213) := ⟨(by rw [hw]; exact (by (with_reducible repeat (first | apply Kd.S_alloc | apply Kd.S_drewN | apply Kd.S_drew)); exact Kd.S_mono (Kd.S_far (p := ⟨gb202, 3, none⟩) (Kd.S_far (p := ⟨gb202, 2, none⟩) (Kd.S_far (p := ⟨gb202, 1, none⟩) (Kd.S_far (p := ⟨gb202, 0, none⟩) (Kd.S_types HO215.out BK202.out (by decide)) (fun _ hk => hk.2) (.int .i64 t211)) (fun _ hk => hk.2) (.int .i64 t212)) (fun _ hk => hk.2) (.slice Ao39 t213.length co39)) (fun _ hk => hk.2) (.int .i64 t216)) (fun _ hk => hk.1.1)))⟩; have n3_ : Aside0 (Kd.S k44 44 w40 w.heap.size (fun k_ => (w.heap.size ≤ k_) ∧ some k_ ≠ (v208 : Value).ownBlock) v218 t217) := ⟨(by rw [hw]; exact (by (with_reducible repeat (first | apply Kd.S_alloc | apply Kd.S_drewN | apply Kd.S_drew)); exact Kd.S_mono (Kd.S_far (p := ⟨gb202, 3, none⟩) (Kd.S_far (p := ⟨gb202, 2, none⟩) (Kd.S_far (p := ⟨gb202, 1, none⟩) (Kd.S_far (p := ⟨gb202, 0, none⟩) (Kd.S_types HO219.out BK202.out (by decide)) (fun _ hk => hk.2) (.int .i64 t211)) (fun _ hk => hk.2) (.int .i64 t212)) (fun _ hk => hk.2) (.slice Ao39 t213.length co39)) (fun _ hk => hk.2) (.int .i64 t216)) (fun _ hk => ⟨hk.1.1.1, hk.1.2⟩)))⟩; have n4_ : Aside0 (w40.heap[gb202]? = some (.cells #[.int .i64 t211, .int .i64 t212, .slice Ao39 t213.length co39, .int .i64 t216] 24 (0, 0))) := ⟨(by rw [hw]; exact (by (with_reducible repeat (first | refine blk_drewN ?_ _ | refine blk_drew ?_ | refine blk_alloc ?_ _)); refine blk_put (cs := #[.int .i64 t211, .int .i64 t212, .slice Ao39 t213.length co39, .int .i64 x203003_2]) ?_ 3 _ rfl; (with_reducible repeat (first | refine blk_drewN ?_ _ | refine blk_drew ?_ | refine blk_alloc ?_ _)); refine blk_put (cs := #[.int .i64 t211, .int .i64 t212, .slice Ao36 x203002_2.length co36, .int .i64 x203003_2]) ?_ 2 _ rfl; (with_reducible repeat (first | refine blk_drewN ?_ _ | refine blk_drew ?_ | refine blk_alloc ?_ _)); refine blk_put (cs := #[.int .i64 t211, .int .i64 x203001_2, .slice Ao36 x203002_2.length co36, .int .i64 x203003_2]) ?_ 1 _ rfl; (with_reducible repeat (first | refine blk_drewN ?_ _ | refine blk_drew ?_ | refine blk_alloc ?_ _)); refine blk_put (cs := #[.int .i64 x203000_2, .int .i64 x203001_2, .slice Ao36 x203002_2.length co36, .int .i64 x203003_2]) ?_ 0 _ rfl; (with_reducible repeat (first | refine blk_drewN ?_ _ | refine blk_drew ?_ | refine blk_alloc ?_ _)); exact BK202.out))⟩; have n5_ : Aside0 (Below w.heap.size w w40) := ⟨(by rw [hw]; exact (by repeat (first | (with_reducible first | exact HB.out | apply below_alloc | apply pw_below_drewN | apply below_drew1 | refine below_set ?_ GE202.out) | exact HB.out)))⟩; clear hw; clear HO_203002; clear HO209; clear HO215; clear HO219; clear BK202; clear HB; have HO_203002 := n0_; have HO209 := n1_; have HO215 := n2_; have HO219 := n3_; have BK202 := n4_; have HB := n5_; clear n0_ n1_ n2_ n3_ n4_ n5_))
             go_meet
             case rel => exact ⟨_, (x5_2), (t217), (t220), (t211), (t212), (t213), (t216), (.slice Ao39 t213.length co39), (by first | rfl | (simp; done) | (simp [*]; done) | (congr 1; omega) | (simp; omega)), (by first | rfl | (simp; done) | (simp [*]; done) | (congr 1; omega) | (simp; omega)), H', ⟨by have := HJ2.out; have := HK2.out; have := HJ23.out; first | omega | exact Nat.le_refl _⟩, ⟨by (with_reducible repeat (first | apply Kd.S_alloc | apply Kd.S_drewN | apply Kd.S_drew)); exact Kd.S_mono HO219.out (fun _ hk => hk.1)⟩, ⟨Kd.V_mono (ok := fun k_ => (w.heap.size ≤ k_) ∧ some k_ ≠ (v218 : Value).ownBlock ∧ k_ ≠ gb202) (Kd.S_V (by (with_reducible repeat (first | apply Kd.S_alloc | apply Kd.S_drewN | apply Kd.S_drew)); exact Kd.S_mono (Kd.S_types (Kd.S_apart' HO215.out (Kd.S_typed HO219.out) (by decide)) BK202.out (by decide)) (fun _ hk => ⟨hk.1.1, ⟨hk.1.2, hk.2⟩⟩))) (fun k_ hk => by first | exact ⟨(.inr (hk.1)), hk.2⟩ | exact (.inr (hk)))⟩, ⟨by (with_reducible repeat (first | refine blk_drewN ?_ _ | refine blk_drew ?_ | refine blk_alloc ?_ _)); exact BK202.out⟩, ⟨by repeat (first | (with_reducible first | exact HB.out | apply below_alloc | apply pw_below_drewN | apply below_drew1 | refine below_set ?_ GE202.out) | exact HB.out)⟩⟩
            ·rw [if_neg c33] at H
             have c33b0 : ((rd l1 x6_2) == (-1)) = false := beq_eq_false_iff_ne.mpr c33
             have c33b1 : ((rd l1 x6_2) != (-1)) = true := bne_iff_ne.mpr c33
             by_cases c41 : (rd l1 x6_2) < 0
             ·rw [if_pos c41] at H
              have c41b0 : decide ((rd l1 x6_2) < 0) = true := decide_eq_true c41
              clear c41
              replace H := Option.bind_eq_some_iff.mp H
              obtain ⟨⟨t222, t223, t224, t227, t228, t231⟩, A420, H⟩ := H
              replace H : (withylaw14_SendNumbers.j3 kj23 l1 x5_2 x6_2 t228 t231 x203000_2 t222 t223 t224 t227) = some r := H
              have A42 := Aside0.mk A420
              clear A420
              have H' := Aside0.mk H
              clear H
              have p210 : 0 ≤ (x6_2 : Int) := of_decide_eq_true (by first | (with_reducible assumption) | assumption)
              have q210 : x6_2 < (l1.length : Int) := of_decide_eq_true (by first | (with_reducible assumption) | assumption)
              obtain ⟨ad210, e210, hx210_0⟩ := Kd.at_int HR1.out x6_2 p210 q210
              cases e210
              replace hx210_0 := (HB.out.cell (World.block_lt_of_cell? w _ hx210_0)).trans hx210_0
              replace p210 := eq_true p210
              replace q210 := eq_true q210
              have p221 : 0 ≤ (x6_2 : Int) := of_decide_eq_true (by first | (with_reducible assumption) | assumption)
              have q221 : x6_2 < (l1.length : Int) := of_decide_eq_true (by first | (with_reducible assumption) | assumption)
              obtain ⟨ad221, e221, hx221_0⟩ := Kd.at_int HR1.out x6_2 p221 q221
              obtain rfl : ad210 = ad221 := (by injection e221)
              replace hx221_0 := (HB.out.cell (World.block_lt_of_cell? w _ hx221_0)).trans hx221_0
              replace p221 := eq_true p221
              replace q221 := eq_true q221
              have hcz43_0 : w28.cell? ⟨gb202, 0, none⟩ = some (.int .i64 x203000_2) := (blk_cell BK202.out 0).trans rfl
              have hcz43_1 : w28.cell? ⟨gb202, 1, none⟩ = some (.int .i64 x203001_2) := (blk_cell BK202.out 1).trans rfl
              have hcz43_2 : w28.cell? ⟨gb202, 2, none⟩ = some (u203002) := (blk_cell BK202.out 2).trans rfl
              have hcz43_3 : w28.cell? ⟨gb202, 3, none⟩ = some (.int .i64 x203003_2) := (blk_cell BK202.out 3).trans rfl
              have hfz43_0 := blk_frozen BK202.out 0
              have hfz43_1 := blk_frozen BK202.out 1
              have hfz43_2 := blk_frozen BK202.out 2
              have hfz43_3 := blk_frozen BK202.out 3
              obtain ⟨Ao44, co44, eo44⟩ := Kd.V_slice HO_203002.out
              subst eo44
              go_wp2_with (first | ((with_reducible refine gate_callee (f := 14) rfl ?_); refine goesL_ (some 77) rfl rfl Try.func14 (by kernel_rfl) rfl #[.agg #[.int .i64 x203000_2, .int .i64 x203001_2, .slice Ao44 x203002_2.length co44, .int .i64 x203003_2]] rfl (by (try simp only [List.map_toArray, List.map_cons, List.map_nil]); first | done | rfl | (simp only [List.length_drop, List.length_take]; rfl)) ?_; (with_reducible refine (send_Tick.calls kj23 x203000_2 x203001_2 _ _ x203002_2 x203003_2 t222 t223 t224 t227 t228 t231 _ ?side1 ?side2 A42.out).mono ?_); (case side1 => repeat (first | exact (Kd.V_reads' HO_203002.out).2.2 | (with_reducible refine Kd.C_alloc ?_ _) | (with_reducible refine Kd.C_drewN ?_ _) | (with_reducible refine Kd.C_drew ?_))); (case side2 => exact (Kd.V_reads' HO_203002.out).2.1); rintro e w45 ⟨v225, v229, rfl, ho0, ho1, hb⟩; refine ⟨_, rfl, ?_⟩; have n0_ := Aside0.mk (Kd.V_mono (Kd.V_told (Kd.V_told (Kd.V_old (by (with_reducible repeat (first | apply Kd.V_alloc | apply Kd.V_drewN | apply Kd.V_drew)); exact HO_203002.out) hb) (Kd.S_base ho0)) (Kd.S_base ho1)) (fun _ h_ => h_.1)); have n1_ := Aside0.mk (Kd.S_elder' (by (with_reducible repeat (first | apply Kd.S_alloc | apply Kd.S_drewN | apply Kd.S_drew)); exact HO209.out) (Kd.S_base ho1) hb); have n2_ := Aside0.mk (Kd.S_lower (Kd.S_newM (M := fun k_ => (w.heap.size ≤ k_)) ho0 (below_size (by repeat (first | (with_reducible first | exact HB.out | apply below_alloc | apply pw_below_drewN | apply below_drew1 | refine below_set ?_ GE202.out) | exact HB.out))) (fun k_ h_ => h_)) (below_size (by repeat (first | (with_reducible first | exact HB.out | apply below_alloc | apply pw_below_drewN | apply below_drew1 | refine below_set ?_ GE202.out) | exact HB.out)))); have n3_ := Aside0.mk (Kd.S_lower (Kd.S_new' (Kd.S_newM (M := fun k_ => (w.heap.size ≤ k_)) ho1 (below_size (by repeat (first | (with_reducible first | exact HB.out | apply below_alloc | apply pw_below_drewN | apply below_drew1 | refine below_set ?_ GE202.out) | exact HB.out))) (fun k_ h_ => h_)) (Kd.S_lt (by (with_reducible repeat (first | apply Kd.S_alloc | apply Kd.S_drewN | apply Kd.S_drew)); exact HO209.out))) (below_size (by repeat (first | (with_reducible first | exact HB.out | apply below_alloc | apply pw_below_drewN | apply below_drew1 | refine below_set ?_ GE202.out) | exact HB.out)))); have n4_ := Aside0.mk (blk_below (g := gb202) (o := .cells #[.int .i64 x203000_2, .int .i64 x203001_2, .slice Ao44 x203002_2.length co44, .int .i64 x203003_2] 24 (0, 0)) (by (with_reducible repeat (first | refine blk_drewN ?_ _ | refine blk_drew ?_ | refine blk_alloc ?_ _)); exact BK202.out) hb); have n5_ := Aside0.mk (below_step (by repeat (first | (with_reducible first | exact HB.out | apply below_alloc | apply pw_below_drewN | apply below_drew1 | refine below_set ?_ GE202.out) | exact HB.out)) hb); clear HO_203002; clear HO209; clear BK202; clear HB; have HO_203002 := n0_; have HO209 := n1_; have HO226 := n2_; have HO230 := n3_; have BK202 := n4_; have HB := n5_; clear n0_ n1_ n2_ n3_ n4_ n5_; (try clear hb); (try clear hb2); (try clear hk); (try clear hi); (try clear ho0); (try clear ho1); have hcz46_0 : w45.cell? ⟨gb202, 0, none⟩ = some (.int .i64 x203000_2) := (blk_cell BK202.out 0).trans rfl; have hcz46_1 : w45.cell? ⟨gb202, 1, none⟩ = some (.int .i64 x203001_2) := (blk_cell BK202.out 1).trans rfl; have hcz46_2 : w45.cell? ⟨gb202, 2, none⟩ = some (.slice Ao44 x203002_2.length co44) := (blk_cell BK202.out 2).trans rfl; have hcz46_3 : w45.cell? ⟨gb202, 3, none⟩ = some (.int .i64 x203003_2) := (blk_cell BK202.out 3).trans rfl; have hfz46_0 := blk_frozen BK202.out 0; have hfz46_1 := blk_frozen BK202.out 1; have hfz46_2 := blk_frozen BK202.out 2; have hfz46_3 := blk_frozen BK202.out 3; obtain ⟨Ao47, co47, eo47⟩ := Kd.S_slice HO226.out; subst eo47) | ((with_reducible refine gate_store (t := 24) (p := 2) rfl ?_); refine store_event (t := 24) (p := 2) (v := ?vo_w48) (w1 := ((((w45.setCell ⟨gb202, 0, none⟩ (.int .i64 t222)).setCell ⟨gb202, 1, none⟩ (.int .i64 t223)).setCell ⟨gb202, 2, none⟩ (.slice Ao47 t224.length co47)).setCell ⟨gb202, 3, none⟩ (.int .i64 t227))) ?hg ?ho ?hn ?hr ?_; (case ho => rfl); (case hg => rfl); (case hn => rfl); (case hr => first | (go_simp; done) | (go_simp; rfl)); intro w48 hw; have n0_ : Aside0 (Kd.V (Kd.slice 5 (Kd.int .u8)) 42 w48 w.heap.size (fun k_ => (P0_2_ k_ ∨ w.heap.size ≤ k_) ∧ some k_ ≠ (v208 : Value).ownBlock ∧ some k_ ≠ (.slice Ao47 t224.length co47 : Value).ownBlock ∧ some k_ ≠ (v229 : Value).ownBlock ∧ k_ ≠ gb202) (.slice Ao44 x203002_2.length co44) x203002_2) := ⟨(by rw [hw]; exact (by (with_reducible repeat (first | apply Kd.V_alloc | apply Kd.V_drewN | apply Kd.V_drew)); exact Kd.V_mono (Kd.V_far (p := ⟨gb202, 3, none⟩) (Kd.V_far (p := ⟨gb202, 2, none⟩) (Kd.V_far (p := ⟨gb202, 1, none⟩) (Kd.V_far (p := ⟨gb202, 0, none⟩) (Kd.V_mono HO_203002.out (fun k_ hk => (⟨hk, hk.1.1.1.2⟩ : _ ∧ k_ ≠ gb202))) (fun _ hk => hk.2) (.int .i64 t222)) (fun _ hk => hk.2) (.int .i64 t223)) (fun _ hk => hk.2) (.slice Ao47 t224.length co47)) (fun _ hk => hk.2) (.int .i64 t227)) (fun _ hk => ⟨hk.1.1.1.1.1, ⟨hk.1.1.1.2, ⟨hk.1.1.2, ⟨hk.1.2, hk.1.1.1.1.2⟩⟩⟩⟩)))⟩; have n1_ : Aside0 (Kd.S k44 44 w48 w.heap.size (fun k_ => (w.heap.size ≤ k_) ∧ some k_ ≠ (v229 : Value).ownBlock) v208 y207) := ⟨(by rw [hw]; exact (by (with_reducible repeat (first | apply Kd.S_alloc | apply Kd.S_drewN | apply Kd.S_drew)); exact Kd.S_mono (Kd.S_far (p := ⟨gb202, 3, none⟩) (Kd.S_far (p := ⟨gb202, 2, none⟩) (Kd.S_far (p := ⟨gb202, 1, none⟩) (Kd.S_far (p := ⟨gb202, 0, none⟩) (Kd.S_types HO209.out BK202.out (by decide)) (fun _ hk => hk.2) (.int .i64 t222)) (fun _ hk => hk.2) (.int .i64 t223)) (fun _ hk => hk.2) (.slice Ao47 t224.length co47)) (fun _ hk => hk.2) (.int .i64 t227)) (fun _ hk => ⟨hk.1.1.1, hk.1.2⟩)))⟩; have n2_ : Aside0 (Kd.S (Kd.slice 5 (Kd.int .u8)) 42 w48 w.heap.size (fun k_ => (w.heap.size ≤ k_)) (.slice Ao47 t224.length co47) t224) := ⟨(by rw [hw]; exact (by (with_reducible repeat (first | apply Kd.S_alloc | apply Kd.S_drewN | apply Kd.S_drew)); exact Kd.S_mono (Kd.S_far (p := ⟨gb202, 3, none⟩) (Kd.S_far (p := ⟨gb202, 2, none⟩) (Kd.S_far (p := ⟨gb202, 1, none⟩) (Kd.S_far (p := ⟨gb202, 0, none⟩) (Kd.S_types HO226.out BK202.out (by decide)) (fun _ hk => hk.2) (.int .i64 t222)) (fun _ hk => hk.2) (.int .i64 t223)) (fun _ hk => hk.2) (.slice Ao47 t224.length co47)) (fun _ hk => hk.2) (.int .i64 t227)) (fun _ hk => hk.1.1)))⟩; have n3_ : Aside0 (Kd.S k44 44 w48 w.heap.size (fun k_ => (w.heap.size ≤ k_) ∧ some k_ ≠ (v208 : Value).ownBlock) v229 t228) := ⟨(by rw [hw]; exact (by (with_reducible repeat (first | apply Kd.S_alloc | apply Kd.S_drewN | apply Kd.S_drew)); exact Kd.S_mono (Kd.S_far (p := ⟨gb202, 3, none⟩) (Kd.S_far (p := ⟨gb202, 2, none⟩) (Kd.S_far (p := ⟨gb202, 1, none⟩) (Kd.S_far (p := ⟨gb202, 0, none⟩) (Kd.S_types HO230.out BK202.out (by decide)) (fun _ hk => hk.2) (.int .i64 t222)) (fun _ hk => hk.2) (.int .i64 t223)) (fun _ hk => hk.2) (.slice Ao47 t224.length co47)) (fun _ hk => hk.2) (.int .i64 t227)) (fun _ hk => ⟨hk.1.1.1, hk.1.2⟩)))⟩; have n4_ : Aside0 (w48.heap[gb202]? = some (.cells #[.int .i64 t222, .int .i64 t223, .slice Ao47 t224.length co47, .int .i64 t227] 24 (0, 0))) := ⟨(by rw [hw]; exact (by (with_reducible repeat (first | refine blk_drewN ?_ _ | refine blk_drew ?_ | refine blk_alloc ?_ _)); refine blk_put (cs := #[.int .i64 t222, .int .i64 t223, .slice Ao47 t224.length co47, .int .i64 x203003_2]) ?_ 3 _ rfl; (with_reducible repeat (first | refine blk_drewN ?_ _ | refine blk_drew ?_ | refine blk_alloc ?_ _)); refine blk_put (cs := #[.int .i64 t222, .int .i64 t223, .slice Ao44 x203002_2.length co44, .int .i64 x203003_2]) ?_ 2 _ rfl; (with_reducible repeat (first | refine blk_drewN ?_ _ | refine blk_drew ?_ | refine blk_alloc ?_ _)); refine blk_put (cs := #[.int .i64 t222, .int .i64 x203001_2, .slice Ao44 x203002_2.length co44, .int .i64 x203003_2]) ?_ 1 _ rfl; (with_reducible repeat (first | refine blk_drewN ?_ _ | refine blk_drew ?_ | refine blk_alloc ?_ _)); refine blk_put (cs := #[.int .i64 x203000_2, .int .i64 x203001_2, .slice Ao44 x203002_2.length co44, .int .i64 x203003_2]) ?_ 0 _ rfl; (with_reducible repeat (first | refine blk_drewN ?_ _ | refine blk_drew ?_ | refine blk_alloc ?_ _)); exact BK202.out))⟩; have n5_ : Aside0 (Below w.heap.size w w48) := ⟨(by rw [hw]; exact (by repeat (first | (with_reducible first | exact HB.out | apply below_alloc | apply pw_below_drewN | apply below_drew1 | refine below_set ?_ GE202.out) | exact HB.out)))⟩; clear hw; clear HO_203002; clear HO209; clear HO226; clear HO230; clear BK202; clear HB; have HO_203002 := n0_; have HO209 := n1_; have HO226 := n2_; have HO230 := n3_; have BK202 := n4_; have HB := n5_; clear n0_ n1_ n2_ n3_ n4_ n5_))
              go_meet
              case rel => exact ⟨_, (x5_2), (t228), (t231), (t222), (t223), (t224), (t227), (.slice Ao47 t224.length co47), (by first | rfl | (simp; done) | (simp [*]; done) | (congr 1; omega) | (simp; omega)), (by first | rfl | (simp; done) | (simp [*]; done) | (congr 1; omega) | (simp; omega)), H', ⟨by have := HJ2.out; have := HK2.out; have := HJ23.out; first | omega | exact Nat.le_refl _⟩, ⟨by (with_reducible repeat (first | apply Kd.S_alloc | apply Kd.S_drewN | apply Kd.S_drew)); exact Kd.S_mono HO230.out (fun _ hk => hk.1)⟩, ⟨Kd.V_mono (ok := fun k_ => (w.heap.size ≤ k_) ∧ some k_ ≠ (v229 : Value).ownBlock ∧ k_ ≠ gb202) (Kd.S_V (by (with_reducible repeat (first | apply Kd.S_alloc | apply Kd.S_drewN | apply Kd.S_drew)); exact Kd.S_mono (Kd.S_types (Kd.S_apart' HO226.out (Kd.S_typed HO230.out) (by decide)) BK202.out (by decide)) (fun _ hk => ⟨hk.1.1, ⟨hk.1.2, hk.2⟩⟩))) (fun k_ hk => by first | exact ⟨(.inr (hk.1)), hk.2⟩ | exact (.inr (hk)))⟩, ⟨by (with_reducible repeat (first | refine blk_drewN ?_ _ | refine blk_drew ?_ | refine blk_alloc ?_ _)); exact BK202.out⟩, ⟨by repeat (first | (with_reducible first | exact HB.out | apply below_alloc | apply pw_below_drewN | apply below_drew1 | refine below_set ?_ GE202.out) | exact HB.out)⟩⟩
             ·rw [if_neg c41] at H
              have c41b0 : decide ((rd l1 x6_2) < 0) = false := decide_eq_false c41
              clear c41
              by_cases c49 : (rd l1 x6_2) = 0
              ·rw [if_pos c49] at H
               have c49b0 : ((rd l1 x6_2) == 0) = true := beq_iff_eq.mpr c49
               have c49b1 : ((rd l1 x6_2) != 0) = false := bne_eq_false_iff_eq.mpr c49
               clear c49
               obtain ⟨y233, hy233⟩ : ∃ y_ : List Int, y_ = (([1] : List Int)) := ⟨_, rfl⟩
               replace H : ((send_Push.f kj23 x203000_2 x203001_2 x203002_2 x203003_2 y233 2147483647).bind fun bt236 => (if (x203002_2.length : Int) < 256 then (withylaw14_SendNumbers.j3 kj23 l1 (wrap64 (x5_2 + 1)) x6_2 y207 0 x203000_2 bt236.1 bt236.2.1 bt236.2.2.1 bt236.2.2.2.1) else (if bt236.2.2.2.2 = 2 then (withylaw14_SendNumbers.j3 kj23 l1 x5_2 x6_2 y207 0 x203000_2 x203000_2 x203001_2 x203002_2 x203003_2) else (some false)))) = some r := by first | (rw [hy233]; with_reducible exact H) | (have H2_ := (Option.bind_some _ _).symm.trans H; rw [hy233]; with_reducible exact H2_) | (have H2_ := (Option.bind_some _ _).symm.trans H; with_reducible exact H2_) | with_reducible exact H | (rw [hy233]; exact H) | exact H
               have Ny233 := Aside0.mk hy233
               clear hy233
               replace H := Option.bind_eq_some_iff.mp H
               obtain ⟨⟨t236, t237, t238, t241, t242⟩, A500, H⟩ := H
               replace H : (if (x203002_2.length : Int) < 256 then (withylaw14_SendNumbers.j3 kj23 l1 (wrap64 (x5_2 + 1)) x6_2 y207 0 x203000_2 t236 t237 t238 t241) else (if t242 = 2 then (withylaw14_SendNumbers.j3 kj23 l1 x5_2 x6_2 y207 0 x203000_2 x203000_2 x203001_2 x203002_2 x203003_2) else (some false))) = some r := H
               have A50 := Aside0.mk A500
               clear A500
               by_cases c51 : (x203002_2.length : Int) < 256
               ·rw [if_pos c51] at H
                have c51b0 : decide ((x203002_2.length : Int) < 256) = true := decide_eq_true c51
                have c51b1 : decide (x203002_2.length < 256) = true := decide_eq_true (by omega)
                clear c51
                have H' := Aside0.mk H
                clear H
                have p210 : 0 ≤ (x6_2 : Int) := of_decide_eq_true (by first | (with_reducible assumption) | assumption)
                have q210 : x6_2 < (l1.length : Int) := of_decide_eq_true (by first | (with_reducible assumption) | assumption)
                obtain ⟨ad210, e210, hx210_0⟩ := Kd.at_int HR1.out x6_2 p210 q210
                cases e210
                replace hx210_0 := (HB.out.cell (World.block_lt_of_cell? w _ hx210_0)).trans hx210_0
                replace p210 := eq_true p210
                replace q210 := eq_true q210
                have p221 : 0 ≤ (x6_2 : Int) := of_decide_eq_true (by first | (with_reducible assumption) | assumption)
                have q221 : x6_2 < (l1.length : Int) := of_decide_eq_true (by first | (with_reducible assumption) | assumption)
                obtain ⟨ad221, e221, hx221_0⟩ := Kd.at_int HR1.out x6_2 p221 q221
                obtain rfl : ad210 = ad221 := (by injection e221)
                replace hx221_0 := (HB.out.cell (World.block_lt_of_cell? w _ hx221_0)).trans hx221_0
                replace p221 := eq_true p221
                replace q221 := eq_true q221
                have p232 : 0 ≤ (x6_2 : Int) := of_decide_eq_true (by first | (with_reducible assumption) | assumption)
                have q232 : x6_2 < (l1.length : Int) := of_decide_eq_true (by first | (with_reducible assumption) | assumption)
                obtain ⟨ad232, e232, hx232_0⟩ := Kd.at_int HR1.out x6_2 p232 q232
                obtain rfl : ad210 = ad232 := (by injection e232)
                replace hx232_0 := (HB.out.cell (World.block_lt_of_cell? w _ hx232_0)).trans hx232_0
                replace p232 := eq_true p232
                replace q232 := eq_true q232
                have hcz52_0 : w28.cell? ⟨gb202, 0, none⟩ = some (.int .i64 x203000_2) := (blk_cell BK202.out 0).trans rfl
                have hcz52_1 : w28.cell? ⟨gb202, 1, none⟩ = some (.int .i64 x203001_2) := (blk_cell BK202.out 1).trans rfl
                have hcz52_2 : w28.cell? ⟨gb202, 2, none⟩ = some (u203002) := (blk_cell BK202.out 2).trans rfl
                have hcz52_3 : w28.cell? ⟨gb202, 3, none⟩ = some (.int .i64 x203003_2) := (blk_cell BK202.out 3).trans rfl
                have hfz52_0 := blk_frozen BK202.out 0
                have hfz52_1 := blk_frozen BK202.out 1
                have hfz52_2 := blk_frozen BK202.out 2
                have hfz52_3 := blk_frozen BK202.out 3
                obtain ⟨Ao53, co53, eo53⟩ := Kd.V_slice HO_203002.out
                subst eo53
                go_wp2_with (first | ((with_reducible refine gate_dst (N := 92) rfl ?_); (try (refine gate_guard (by rfl) ?_; dsimp only)); refine Kd.R_lit (Kd.int .u8) _ 5 ?hg (N := 92) ?hd (xs := ([1] : List Int)) (inner := [.int .u8 1]) (ok := fun _ => True) (okp := fun _ => True) ?hr ?hp (fun _ hk => hk) trivial (Below.refl _ _) (Nat.le_refl _) (by simp) ?_; (case hd => rfl); (case hg => rfl); (case hr => first | (go_simp; done) | (go_simp; rfl)); (case hp => exact (Reps.one (show Kd.M (Kd.int .u8) _ _ _ 1 [.int .u8 1] from rfl) (Reps.none _ _))); intro v234 w54 ho55 hb hg_ hnew_; clear hg_ hnew_; (first | rw [← Ny233.out] at ho55 | (simp only [Int.reduceToNat] at ho55; rw [← Ny233.out] at ho55)); have n0_ := Aside0.mk (Kd.V_elder' (by (with_reducible repeat (first | apply Kd.V_alloc | apply Kd.V_drewN | apply Kd.V_drew)); exact HO_203002.out) (Kd.R_base ho55) hb); have n1_ := Aside0.mk (Kd.S_elder' (by (with_reducible repeat (first | apply Kd.S_alloc | apply Kd.S_drewN | apply Kd.S_drew)); exact HO209.out) (Kd.R_base ho55) hb); have n2_ := Aside0.mk (Kd.R_lower (Kd.R_newM (M := fun k_ => (w.heap.size ≤ k_)) ho55 (below_size (by repeat (first | (with_reducible first | exact HB.out | apply below_alloc | apply pw_below_drewN | apply below_drew1 | refine below_set ?_ GE202.out) | exact HB.out))) (fun k_ h_ => h_)) (below_size (by repeat (first | (with_reducible first | exact HB.out | apply below_alloc | apply pw_below_drewN | apply below_drew1 | refine below_set ?_ GE202.out) | exact HB.out)))); have n3_ := Aside0.mk (blk_below (g := gb202) (o := .cells #[.int .i64 x203000_2, .int .i64 x203001_2, .slice Ao53 x203002_2.length co53, .int .i64 x203003_2] 24 (0, 0)) (by (with_reducible repeat (first | refine blk_drewN ?_ _ | refine blk_drew ?_ | refine blk_alloc ?_ _)); exact BK202.out) hb); have n4_ := Aside0.mk (below_step (by repeat (first | (with_reducible first | exact HB.out | apply below_alloc | apply pw_below_drewN | apply below_drew1 | refine below_set ?_ GE202.out) | exact HB.out)) hb); clear HO_203002; clear HO209; clear BK202; clear HB; have HO_203002 := n0_; have HO209 := n1_; have HO235 := n2_; have BK202 := n3_; have HB := n4_; clear n0_ n1_ n2_ n3_ n4_; clear hb ho55; obtain ⟨Ao56, co56, eo56⟩ := Kd.R_slice HO235.out; subst eo56) | ((with_reducible refine gate_callee (f := 18) rfl ?_); refine goesL_ (some 93) rfl rfl Try.func18 (by kernel_rfl) rfl #[.agg #[.int .i64 x203000_2, .int .i64 x203001_2, .slice Ao53 x203002_2.length co53, .int .i64 x203003_2], .slice Ao56 y233.length co56, .int .i64 2147483647] rfl (by (try simp only [List.map_toArray, List.map_cons, List.map_nil]); first | done | rfl | (simp only [List.length_drop, List.length_take]; rfl)) ?_; (with_reducible refine (send_Push.calls kj23 x203000_2 x203001_2 _ _ x203002_2 x203003_2 _ _ y233 2147483647 t236 t237 t238 t241 t242 _ ?side1 ?side2 ?side3 ?side4 A50.out).mono ?_); (case side1 => repeat (first | exact (Kd.V_reads' HO_203002.out).2.2 | (with_reducible refine Kd.C_alloc ?_ _) | (with_reducible refine Kd.C_drewN ?_ _) | (with_reducible refine Kd.C_drew ?_))); (case side2 => exact (Kd.V_reads' HO_203002.out).2.1); (case side3 => repeat (first | exact (Kd.R_reads' HO235.out).2.2 | (with_reducible refine Kd.C_alloc ?_ _) | (with_reducible refine Kd.C_drewN ?_ _) | (with_reducible refine Kd.C_drew ?_))); (case side4 => exact (Kd.R_reads' HO235.out).2.1); rintro e w57 ⟨v239, rfl, ho0, hb⟩; refine ⟨_, rfl, ?_⟩; have n0_ := Aside0.mk (Kd.V_elder' (by (with_reducible repeat (first | apply Kd.V_alloc | apply Kd.V_drewN | apply Kd.V_drew)); exact HO_203002.out) (Kd.S_base ho0) hb); have n1_ := Aside0.mk (Kd.S_below (by (with_reducible repeat (first | apply Kd.S_alloc | apply Kd.S_drewN | apply Kd.S_drew)); exact HO209.out) hb); have n2_ := Aside0.mk (Kd.R_below (by (with_reducible repeat (first | apply Kd.R_alloc | apply Kd.R_drewN | apply Kd.R_drew)); exact HO235.out) hb); have n3_ := Aside0.mk (Kd.S_lower (Kd.S_new' (Kd.S_newM (M := fun k_ => (w.heap.size ≤ k_)) ho0 (below_size (by repeat (first | (with_reducible first | exact HB.out | apply below_alloc | apply pw_below_drewN | apply below_drew1 | refine below_set ?_ GE202.out) | exact HB.out))) (fun k_ h_ => h_)) (Kd.R_lt (by (with_reducible repeat (first | apply Kd.R_alloc | apply Kd.R_drewN | apply Kd.R_drew)); exact HO235.out))) (below_size (by repeat (first | (with_reducible first | exact HB.out | apply below_alloc | apply pw_below_drewN | apply below_drew1 | refine below_set ?_ GE202.out) | exact HB.out)))); have n4_ := Aside0.mk (blk_below (g := gb202) (o := .cells #[.int .i64 x203000_2, .int .i64 x203001_2, .slice Ao53 x203002_2.length co53, .int .i64 x203003_2] 24 (0, 0)) (by (with_reducible repeat (first | refine blk_drewN ?_ _ | refine blk_drew ?_ | refine blk_alloc ?_ _)); exact BK202.out) hb); have n5_ := Aside0.mk (below_step (by repeat (first | (with_reducible first | exact HB.out | apply below_alloc | apply pw_below_drewN | apply below_drew1 | refine below_set ?_ GE202.out) | exact HB.out)) hb); clear HO_203002; clear HO209; clear HO235; clear BK202; clear HB; have HO_203002 := n0_; have HO209 := n1_; have HO235 := n2_; have HO240 := n3_; have BK202 := n4_; have HB := n5_; clear n0_ n1_ n2_ n3_ n4_ n5_; (try clear hb); (try clear hb2); (try clear hk); (try clear hi); (try clear ho0)) | ((with_reducible refine gate_dst (N := 11) rfl ?_); (try (refine gate_guard (by rfl) ?_; dsimp only)); refine box_event ?hg (N := 11) ?hd (cs := #[.int .i64 0, .int .i64 0, .slice none 0 0, .int .i64 0]) (t := 24) ?hr ?_; (case hd => rfl); (case hg => rfl); (case hr => first | (go_simp; done) | (go_simp; rfl)); intro gb243 hg w58 hbox hb; have n0_ := Aside0.mk (Kd.V_below (Kd.V_elderB (by (with_reducible repeat (first | apply Kd.V_alloc | apply Kd.V_drewN | apply Kd.V_drew)); exact HO_203002.out) gb243 (Nat.le_of_eq hg.symm)) hb); have n1_ := Aside0.mk (Kd.S_below (by (with_reducible repeat (first | apply Kd.S_alloc | apply Kd.S_drewN | apply Kd.S_drew)); exact HO209.out) hb); have n2_ := Aside0.mk (Kd.R_below (by (with_reducible repeat (first | apply Kd.R_alloc | apply Kd.R_drewN | apply Kd.R_drew)); exact HO235.out) hb); have n3_ := Aside0.mk (Kd.S_below (by (with_reducible repeat (first | apply Kd.S_alloc | apply Kd.S_drewN | apply Kd.S_drew)); exact HO240.out) hb); have n4_ := Aside0.mk (blk_below (g := gb202) (o := .cells #[.int .i64 x203000_2, .int .i64 x203001_2, .slice Ao53 x203002_2.length co53, .int .i64 x203003_2] 24 (0, 0)) (by (with_reducible repeat (first | refine blk_drewN ?_ _ | refine blk_drew ?_ | refine blk_alloc ?_ _)); exact BK202.out) hb); have n5_ := Aside0.mk (below_step (by repeat (first | (with_reducible first | exact HB.out | apply below_alloc | apply pw_below_drewN | apply below_drew1 | refine below_set ?_ GE202.out) | exact HB.out)) hb); have n6_ := Aside0.mk (hbox); have n7_ := Aside0.mk ((by rw [hg]; exact (below_size (by repeat (first | (with_reducible first | exact HB.out | apply below_alloc | apply pw_below_drewN | apply below_drew1 | refine below_set ?_ GE202.out) | exact HB.out))) : w.heap.size ≤ gb243)); have n8_ := Aside0.mk ((by rw [hg]; exact (below_size (by repeat (first | (with_reducible first | exact HB.out | apply below_alloc | apply pw_below_drewN | apply below_drew1 | refine below_set ?_ GE202.out) | exact HB.out))) : w.heap.size ≤ gb243)); have n9_ := Aside0.mk ((by rw [hg]; exact Nat.ne_of_lt (blk_lt (g := gb202) (o := .cells #[.int .i64 x203000_2, .int .i64 x203001_2, .slice Ao53 x203002_2.length co53, .int .i64 x203003_2] 24 (0, 0)) (by (with_reducible repeat (first | refine blk_drewN ?_ _ | refine blk_drew ?_ | refine blk_alloc ?_ _)); exact BK202.out)) : gb202 ≠ gb243)); have n10_ := Aside0.mk ((by rw [hg]; exact Nat.ne_of_gt (blk_lt (g := gb202) (o := .cells #[.int .i64 x203000_2, .int .i64 x203001_2, .slice Ao53 x203002_2.length co53, .int .i64 x203003_2] 24 (0, 0)) (by (with_reducible repeat (first | refine blk_drewN ?_ _ | refine blk_drew ?_ | refine blk_alloc ?_ _)); exact BK202.out)) : gb243 ≠ gb202)); clear HO_203002; clear HO209; clear HO235; clear HO240; clear BK202; clear HB; have HO_203002 := n0_; have HO209 := n1_; have HO235 := n2_; have HO240 := n3_; have BK202 := n4_; have HB := n5_; have BK243 := n6_; have GW243 := n7_; have GE243 := n8_; have NB202_243 := n9_; have NB243_202 := n10_; clear n0_ n1_ n2_ n3_ n4_ n5_ n6_ n7_ n8_ n9_ n10_; clear hb hbox hg; have hnb59 := NB243_202.out; have hnc59 := NB202_243.out; have hcz60_0 : w58.cell? ⟨gb243, 0, none⟩ = some (.int .i64 0) := (blk_cell BK243.out 0).trans rfl; have hcz60_1 : w58.cell? ⟨gb243, 1, none⟩ = some (.int .i64 0) := (blk_cell BK243.out 1).trans rfl; have hcz60_2 : w58.cell? ⟨gb243, 2, none⟩ = some (.slice none 0 0) := (blk_cell BK243.out 2).trans rfl; have hcz60_3 : w58.cell? ⟨gb243, 3, none⟩ = some (.int .i64 0) := (blk_cell BK243.out 3).trans rfl; have hfz60_0 := blk_frozen BK243.out 0; have hfz60_1 := blk_frozen BK243.out 1; have hfz60_2 := blk_frozen BK243.out 2; have hfz60_3 := blk_frozen BK243.out 3; obtain ⟨Ao61, co61, eo61⟩ := Kd.S_slice HO240.out; subst eo61) | ((with_reducible refine gate_store (t := 24) (p := 11) rfl ?_); refine store_event (t := 24) (p := 11) (v := ?vo_w62) (w1 := ((((w58.setCell ⟨gb243, 0, none⟩ (.int .i64 t236)).setCell ⟨gb243, 1, none⟩ (.int .i64 t237)).setCell ⟨gb243, 2, none⟩ (.slice Ao61 t238.length co61)).setCell ⟨gb243, 3, none⟩ (.int .i64 t241))) ?hg ?ho ?hn ?hr ?_; (case ho => rfl); (case hg => rfl); (case hn => rfl); (case hr => first | (go_simp; done) | (go_simp; rfl)); intro w62 hw; have n0_ : Aside0 (Kd.V (Kd.slice 5 (Kd.int .u8)) 42 w62 w.heap.size (fun k_ => (P0_2_ k_ ∨ w.heap.size ≤ k_) ∧ some k_ ≠ (v208 : Value).ownBlock ∧ some k_ ≠ (.slice Ao56 y233.length co56 : Value).ownBlock ∧ some k_ ≠ (.slice Ao61 t238.length co61 : Value).ownBlock ∧ k_ ≠ gb202 ∧ k_ ≠ gb243) (.slice Ao53 x203002_2.length co53) x203002_2) := ⟨(by rw [hw]; exact (by (with_reducible repeat (first | apply Kd.V_alloc | apply Kd.V_drewN | apply Kd.V_drew)); exact Kd.V_mono (Kd.V_far (p := ⟨gb243, 3, none⟩) (Kd.V_far (p := ⟨gb243, 2, none⟩) (Kd.V_far (p := ⟨gb243, 1, none⟩) (Kd.V_far (p := ⟨gb243, 0, none⟩) (Kd.V_mono HO_203002.out (fun k_ hk => (⟨hk, hk.2⟩ : _ ∧ k_ ≠ gb243))) (fun _ hk => hk.2) (.int .i64 t236)) (fun _ hk => hk.2) (.int .i64 t237)) (fun _ hk => hk.2) (.slice Ao61 t238.length co61)) (fun _ hk => hk.2) (.int .i64 t241)) (fun _ hk => ⟨hk.1.1.1.1.1.1, ⟨hk.1.1.1.1.2, ⟨hk.1.1.1.2, ⟨hk.1.1.2, ⟨hk.1.1.1.1.1.2, hk.1.2⟩⟩⟩⟩⟩)))⟩; have n1_ : Aside0 (Kd.S k44 44 w62 w.heap.size (fun k_ => (w.heap.size ≤ k_) ∧ some k_ ≠ (.slice Ao56 y233.length co56 : Value).ownBlock) v208 y207) := ⟨(by rw [hw]; exact (by (with_reducible repeat (first | apply Kd.S_alloc | apply Kd.S_drewN | apply Kd.S_drew)); exact Kd.S_mono (Kd.S_far (p := ⟨gb243, 3, none⟩) (Kd.S_far (p := ⟨gb243, 2, none⟩) (Kd.S_far (p := ⟨gb243, 1, none⟩) (Kd.S_far (p := ⟨gb243, 0, none⟩) (Kd.S_types HO209.out BK243.out (by decide)) (fun _ hk => hk.2) (.int .i64 t236)) (fun _ hk => hk.2) (.int .i64 t237)) (fun _ hk => hk.2) (.slice Ao61 t238.length co61)) (fun _ hk => hk.2) (.int .i64 t241)) (fun _ hk => ⟨hk.1.1.1, hk.1.2⟩)))⟩; have n2_ : Aside0 (Kd.R (Kd.int .u8) 5 w62 w.heap.size (fun k_ => (w.heap.size ≤ k_)) (.slice Ao56 y233.length co56) y233) := ⟨(by rw [hw]; exact (by (with_reducible repeat (first | apply Kd.R_alloc | apply Kd.R_drewN | apply Kd.R_drew)); exact Kd.R_mono (Kd.R_far (p := ⟨gb243, 3, none⟩) (Kd.R_far (p := ⟨gb243, 2, none⟩) (Kd.R_far (p := ⟨gb243, 1, none⟩) (Kd.R_far (p := ⟨gb243, 0, none⟩) (Kd.R_types HO235.out BK243.out (by decide)) (fun _ hk => hk.2) (.int .i64 t236)) (fun _ hk => hk.2) (.int .i64 t237)) (fun _ hk => hk.2) (.slice Ao61 t238.length co61)) (fun _ hk => hk.2) (.int .i64 t241)) (fun _ hk => hk.1.1)))⟩; have n3_ : Aside0 (Kd.S (Kd.slice 5 (Kd.int .u8)) 42 w62 w.heap.size (fun k_ => (w.heap.size ≤ k_) ∧ some k_ ≠ (.slice Ao56 y233.length co56 : Value).ownBlock) (.slice Ao61 t238.length co61) t238) := ⟨(by rw [hw]; exact (by (with_reducible repeat (first | apply Kd.S_alloc | apply Kd.S_drewN | apply Kd.S_drew)); exact Kd.S_mono (Kd.S_far (p := ⟨gb243, 3, none⟩) (Kd.S_far (p := ⟨gb243, 2, none⟩) (Kd.S_far (p := ⟨gb243, 1, none⟩) (Kd.S_far (p := ⟨gb243, 0, none⟩) (Kd.S_types HO240.out BK243.out (by decide)) (fun _ hk => hk.2) (.int .i64 t236)) (fun _ hk => hk.2) (.int .i64 t237)) (fun _ hk => hk.2) (.slice Ao61 t238.length co61)) (fun _ hk => hk.2) (.int .i64 t241)) (fun _ hk => ⟨hk.1.1.1, hk.1.2⟩)))⟩; have n4_ : Aside0 (w62.heap[gb202]? = some (.cells #[.int .i64 x203000_2, .int .i64 x203001_2, .slice Ao53 x203002_2.length co53, .int .i64 x203003_2] 24 (0, 0))) := ⟨(by rw [hw]; exact (by (with_reducible repeat (first | refine blk_drewN ?_ _ | refine blk_drew ?_ | refine blk_alloc ?_ _)); refine blk_far ?_ NB202_243.out _; (with_reducible repeat (first | refine blk_drewN ?_ _ | refine blk_drew ?_ | refine blk_alloc ?_ _)); refine blk_far ?_ NB202_243.out _; (with_reducible repeat (first | refine blk_drewN ?_ _ | refine blk_drew ?_ | refine blk_alloc ?_ _)); refine blk_far ?_ NB202_243.out _; (with_reducible repeat (first | refine blk_drewN ?_ _ | refine blk_drew ?_ | refine blk_alloc ?_ _)); refine blk_far ?_ NB202_243.out _; (with_reducible repeat (first | refine blk_drewN ?_ _ | refine blk_drew ?_ | refine blk_alloc ?_ _)); exact BK202.out))⟩; have n5_ : Aside0 (w62.heap[gb243]? = some (.cells #[.int .i64 t236, .int .i64 t237, .slice Ao61 t238.length co61, .int .i64 t241] 24 (0, 0))) := ⟨(by rw [hw]; exact (by (with_reducible repeat (first | refine blk_drewN ?_ _ | refine blk_drew ?_ | refine blk_alloc ?_ _)); refine blk_put (cs := #[.int .i64 t236, .int .i64 t237, .slice Ao61 t238.length co61, .int .i64 0]) ?_ 3 _ rfl; (with_reducible repeat (first | refine blk_drewN ?_ _ | refine blk_drew ?_ | refine blk_alloc ?_ _)); refine blk_put (cs := #[.int .i64 t236, .int .i64 t237, .slice none 0 0, .int .i64 0]) ?_ 2 _ rfl; (with_reducible repeat (first | refine blk_drewN ?_ _ | refine blk_drew ?_ | refine blk_alloc ?_ _)); refine blk_put (cs := #[.int .i64 t236, .int .i64 0, .slice none 0 0, .int .i64 0]) ?_ 1 _ rfl; (with_reducible repeat (first | refine blk_drewN ?_ _ | refine blk_drew ?_ | refine blk_alloc ?_ _)); refine blk_put (cs := #[.int .i64 0, .int .i64 0, .slice none 0 0, .int .i64 0]) ?_ 0 _ rfl; (with_reducible repeat (first | refine blk_drewN ?_ _ | refine blk_drew ?_ | refine blk_alloc ?_ _)); exact BK243.out))⟩; have n6_ : Aside0 (Below w.heap.size w w62) := ⟨(by rw [hw]; exact (by repeat (first | (with_reducible first | exact HB.out | apply below_alloc | apply pw_below_drewN | apply below_drew1 | refine below_set ?_ GE202.out | refine below_set ?_ GE243.out) | exact HB.out)))⟩; clear hw; clear HO_203002; clear HO209; clear HO235; clear HO240; clear BK202; clear BK243; clear HB; have HO_203002 := n0_; have HO209 := n1_; have HO235 := n2_; have HO240 := n3_; have BK202 := n4_; have BK243 := n5_; have HB := n6_; clear n0_ n1_ n2_ n3_ n4_ n5_ n6_; have hcz63_0 : w62.cell? ⟨gb243, 0, none⟩ = some (.int .i64 t236) := (blk_cell BK243.out 0).trans rfl; have hcz63_1 : w62.cell? ⟨gb243, 1, none⟩ = some (.int .i64 t237) := (blk_cell BK243.out 1).trans rfl; have hcz63_2 : w62.cell? ⟨gb243, 2, none⟩ = some (.slice Ao61 t238.length co61) := (blk_cell BK243.out 2).trans rfl; have hcz63_3 : w62.cell? ⟨gb243, 3, none⟩ = some (.int .i64 t241) := (blk_cell BK243.out 3).trans rfl; have hfz63_0 := blk_frozen BK243.out 0; have hfz63_1 := blk_frozen BK243.out 1; have hfz63_2 := blk_frozen BK243.out 2; have hfz63_3 := blk_frozen BK243.out 3; have hcz64_0 : w62.cell? ⟨gb202, 0, none⟩ = some (.int .i64 x203000_2) := (blk_cell BK202.out 0).trans rfl; have hcz64_1 : w62.cell? ⟨gb202, 1, none⟩ = some (.int .i64 x203001_2) := (blk_cell BK202.out 1).trans rfl; have hcz64_2 : w62.cell? ⟨gb202, 2, none⟩ = some (.slice Ao53 x203002_2.length co53) := (blk_cell BK202.out 2).trans rfl; have hcz64_3 : w62.cell? ⟨gb202, 3, none⟩ = some (.int .i64 x203003_2) := (blk_cell BK202.out 3).trans rfl; have hfz64_0 := blk_frozen BK202.out 0; have hfz64_1 := blk_frozen BK202.out 1; have hfz64_2 := blk_frozen BK202.out 2; have hfz64_3 := blk_frozen BK202.out 3) | ((with_reducible refine gate_store (t := 24) (p := 2) rfl ?_); refine store_event (t := 24) (p := 2) (v := ?vo_w65) (w1 := ((((w62.setCell ⟨gb202, 0, none⟩ (.int .i64 t236)).setCell ⟨gb202, 1, none⟩ (.int .i64 t237)).setCell ⟨gb202, 2, none⟩ (.slice Ao61 t238.length co61)).setCell ⟨gb202, 3, none⟩ (.int .i64 t241))) ?hg ?ho ?hn ?hr ?_; (case ho => rfl); (case hg => rfl); (case hn => rfl); (case hr => first | (go_simp; done) | (go_simp; rfl)); intro w65 hw; have n0_ : Aside0 (Kd.V (Kd.slice 5 (Kd.int .u8)) 42 w65 w.heap.size (fun k_ => (P0_2_ k_ ∨ w.heap.size ≤ k_) ∧ some k_ ≠ (v208 : Value).ownBlock ∧ some k_ ≠ (.slice Ao56 y233.length co56 : Value).ownBlock ∧ some k_ ≠ (.slice Ao61 t238.length co61 : Value).ownBlock ∧ k_ ≠ gb202 ∧ k_ ≠ gb243) (.slice Ao53 x203002_2.length co53) x203002_2) := ⟨(by rw [hw]; exact (by (with_reducible repeat (first | apply Kd.V_alloc | apply Kd.V_drewN | apply Kd.V_drew)); exact Kd.V_mono (Kd.V_far (p := ⟨gb202, 3, none⟩) (Kd.V_far (p := ⟨gb202, 2, none⟩) (Kd.V_far (p := ⟨gb202, 1, none⟩) (Kd.V_far (p := ⟨gb202, 0, none⟩) (Kd.V_mono HO_203002.out (fun k_ hk => (⟨hk, hk.2.2.2.2.1⟩ : _ ∧ k_ ≠ gb202))) (fun _ hk => hk.2) (.int .i64 t236)) (fun _ hk => hk.2) (.int .i64 t237)) (fun _ hk => hk.2) (.slice Ao61 t238.length co61)) (fun _ hk => hk.2) (.int .i64 t241)) (fun _ hk => ⟨hk.1.1, ⟨hk.1.2.1, ⟨hk.1.2.2.1, ⟨hk.1.2.2.2.1, ⟨hk.1.2.2.2.2.1, hk.1.2.2.2.2.2⟩⟩⟩⟩⟩)))⟩; have n1_ : Aside0 (Kd.S k44 44 w65 w.heap.size (fun k_ => (w.heap.size ≤ k_) ∧ some k_ ≠ (.slice Ao56 y233.length co56 : Value).ownBlock) v208 y207) := ⟨(by rw [hw]; exact (by (with_reducible repeat (first | apply Kd.S_alloc | apply Kd.S_drewN | apply Kd.S_drew)); exact Kd.S_mono (Kd.S_far (p := ⟨gb202, 3, none⟩) (Kd.S_far (p := ⟨gb202, 2, none⟩) (Kd.S_far (p := ⟨gb202, 1, none⟩) (Kd.S_far (p := ⟨gb202, 0, none⟩) (Kd.S_types HO209.out BK202.out (by decide)) (fun _ hk => hk.2) (.int .i64 t236)) (fun _ hk => hk.2) (.int .i64 t237)) (fun _ hk => hk.2) (.slice Ao61 t238.length co61)) (fun _ hk => hk.2) (.int .i64 t241)) (fun _ hk => ⟨hk.1.1, hk.1.2⟩)))⟩; have n2_ : Aside0 (Kd.R (Kd.int .u8) 5 w65 w.heap.size (fun k_ => (w.heap.size ≤ k_)) (.slice Ao56 y233.length co56) y233) := ⟨(by rw [hw]; exact (by (with_reducible repeat (first | apply Kd.R_alloc | apply Kd.R_drewN | apply Kd.R_drew)); exact Kd.R_mono (Kd.R_far (p := ⟨gb202, 3, none⟩) (Kd.R_far (p := ⟨gb202, 2, none⟩) (Kd.R_far (p := ⟨gb202, 1, none⟩) (Kd.R_far (p := ⟨gb202, 0, none⟩) (Kd.R_types HO235.out BK202.out (by decide)) (fun _ hk => hk.2) (.int .i64 t236)) (fun _ hk => hk.2) (.int .i64 t237)) (fun _ hk => hk.2) (.slice Ao61 t238.length co61)) (fun _ hk => hk.2) (.int .i64 t241)) (fun _ hk => hk.1)))⟩; have n3_ : Aside0 (Kd.S (Kd.slice 5 (Kd.int .u8)) 42 w65 w.heap.size (fun k_ => (w.heap.size ≤ k_) ∧ some k_ ≠ (.slice Ao56 y233.length co56 : Value).ownBlock) (.slice Ao61 t238.length co61) t238) := ⟨(by rw [hw]; exact (by (with_reducible repeat (first | apply Kd.S_alloc | apply Kd.S_drewN | apply Kd.S_drew)); exact Kd.S_mono (Kd.S_far (p := ⟨gb202, 3, none⟩) (Kd.S_far (p := ⟨gb202, 2, none⟩) (Kd.S_far (p := ⟨gb202, 1, none⟩) (Kd.S_far (p := ⟨gb202, 0, none⟩) (Kd.S_types HO240.out BK202.out (by decide)) (fun _ hk => hk.2) (.int .i64 t236)) (fun _ hk => hk.2) (.int .i64 t237)) (fun _ hk => hk.2) (.slice Ao61 t238.length co61)) (fun _ hk => hk.2) (.int .i64 t241)) (fun _ hk => ⟨hk.1.1, hk.1.2⟩)))⟩; have n4_ : Aside0 (w65.heap[gb202]? = some (.cells #[.int .i64 t236, .int .i64 t237, .slice Ao61 t238.length co61, .int .i64 t241] 24 (0, 0))) := ⟨(by rw [hw]; exact (by (with_reducible repeat (first | refine blk_drewN ?_ _ | refine blk_drew ?_ | refine blk_alloc ?_ _)); refine blk_put (cs := #[.int .i64 t236, .int .i64 t237, .slice Ao61 t238.length co61, .int .i64 x203003_2]) ?_ 3 _ rfl; (with_reducible repeat (first | refine blk_drewN ?_ _ | refine blk_drew ?_ | refine blk_alloc ?_ _)); refine blk_put (cs := #[.int .i64 t236, .int .i64 t237, .slice Ao53 x203002_2.length co53, .int .i64 x203003_2]) ?_ 2 _ rfl; (with_reducible repeat (first | refine blk_drewN ?_ _ | refine blk_drew ?_ | refine blk_alloc ?_ _)); refine blk_put (cs := #[.int .i64 t236, .int .i64 x203001_2, .slice Ao53 x203002_2.length co53, .int .i64 x203003_2]) ?_ 1 _ rfl; (with_reducible repeat (first | refine blk_drewN ?_ _ | refine blk_drew ?_ | refine blk_alloc ?_ _)); refine blk_put (cs := #[.int .i64 x203000_2, .int .i64 x203001_2, .slice Ao53 x203002_2.length co53, .int .i64 x203003_2]) ?_ 0 _ rfl; (with_reducible repeat (first | refine blk_drewN ?_ _ | refine blk_drew ?_ | refine blk_alloc ?_ _)); exact BK202.out))⟩; have n5_ : Aside0 (w65.heap[gb243]? = some (.cells #[.int .i64 t236, .int .i64 t237, .slice Ao61 t238.length co61, .int .i64 t241] 24 (0, 0))) := ⟨(by rw [hw]; exact (by (with_reducible repeat (first | refine blk_drewN ?_ _ | refine blk_drew ?_ | refine blk_alloc ?_ _)); refine blk_far ?_ NB243_202.out _; (with_reducible repeat (first | refine blk_drewN ?_ _ | refine blk_drew ?_ | refine blk_alloc ?_ _)); refine blk_far ?_ NB243_202.out _; (with_reducible repeat (first | refine blk_drewN ?_ _ | refine blk_drew ?_ | refine blk_alloc ?_ _)); refine blk_far ?_ NB243_202.out _; (with_reducible repeat (first | refine blk_drewN ?_ _ | refine blk_drew ?_ | refine blk_alloc ?_ _)); refine blk_far ?_ NB243_202.out _; (with_reducible repeat (first | refine blk_drewN ?_ _ | refine blk_drew ?_ | refine blk_alloc ?_ _)); exact BK243.out))⟩; have n6_ : Aside0 (Below w.heap.size w w65) := ⟨(by rw [hw]; exact (by repeat (first | (with_reducible first | exact HB.out | apply below_alloc | apply pw_below_drewN | apply below_drew1 | refine below_set ?_ GE202.out | refine below_set ?_ GE243.out) | exact HB.out)))⟩; clear hw; clear HO_203002; clear HO209; clear HO235; clear HO240; clear BK202; clear BK243; clear HB; have HO_203002 := n0_; have HO209 := n1_; have HO235 := n2_; have HO240 := n3_; have BK202 := n4_; have BK243 := n5_; have HB := n6_; clear n0_ n1_ n2_ n3_ n4_ n5_ n6_))
                go_meet
                case rel => exact ⟨_, (wrap64 (x5_2 + 1)), (y207), (0), (t236), (t237), (t238), (t241), (.slice Ao61 t238.length co61), (by first | rfl | (simp; done) | (simp [*]; done) | (congr 1; omega) | (simp; omega)), (by first | rfl | (simp; done) | (simp [*]; done) | (congr 1; omega) | (simp; omega)), H', ⟨by have := HJ2.out; have := HK2.out; have := HJ23.out; first | omega | exact Nat.le_refl _⟩, ⟨by (with_reducible repeat (first | apply Kd.S_alloc | apply Kd.S_drewN | apply Kd.S_drew)); exact Kd.S_mono HO209.out (fun _ hk => hk.1)⟩, ⟨Kd.V_mono (ok := fun k_ => (w.heap.size ≤ k_) ∧ some k_ ≠ (v208 : Value).ownBlock ∧ k_ ≠ gb202) (Kd.S_V (by (with_reducible repeat (first | apply Kd.S_alloc | apply Kd.S_drewN | apply Kd.S_drew)); exact Kd.S_mono (Kd.S_types (Kd.S_apart' HO240.out (Kd.S_typed HO209.out) (by decide)) BK202.out (by decide)) (fun _ hk => ⟨hk.1.1.1, ⟨hk.1.2, hk.2⟩⟩))) (fun k_ hk => by first | exact ⟨(.inr (hk.1)), hk.2⟩ | exact (.inr (hk)))⟩, ⟨by (with_reducible repeat (first | refine blk_drewN ?_ _ | refine blk_drew ?_ | refine blk_alloc ?_ _)); exact BK202.out⟩, ⟨by repeat (first | (with_reducible first | exact HB.out | apply below_alloc | apply pw_below_drewN | apply below_drew1 | refine below_set ?_ GE202.out | refine below_set ?_ GE243.out) | exact HB.out)⟩⟩
               ·rw [if_neg c51] at H
                have c51b0 : decide ((x203002_2.length : Int) < 256) = false := decide_eq_false c51
                have c51b1 : decide (x203002_2.length < 256) = false := decide_eq_false (by omega)
                clear c51
                by_cases c66 : t242 = 2
                ·rw [if_pos c66] at H
                 have c66b0 : (t242 == 2) = true := beq_iff_eq.mpr c66
                 have c66b1 : (t242 != 2) = false := bne_eq_false_iff_eq.mpr c66
                 clear c66
                 have H' := Aside0.mk H
                 clear H
                 have p210 : 0 ≤ (x6_2 : Int) := of_decide_eq_true (by first | (with_reducible assumption) | assumption)
                 have q210 : x6_2 < (l1.length : Int) := of_decide_eq_true (by first | (with_reducible assumption) | assumption)
                 obtain ⟨ad210, e210, hx210_0⟩ := Kd.at_int HR1.out x6_2 p210 q210
                 cases e210
                 replace hx210_0 := (HB.out.cell (World.block_lt_of_cell? w _ hx210_0)).trans hx210_0
                 replace p210 := eq_true p210
                 replace q210 := eq_true q210
                 have p221 : 0 ≤ (x6_2 : Int) := of_decide_eq_true (by first | (with_reducible assumption) | assumption)
                 have q221 : x6_2 < (l1.length : Int) := of_decide_eq_true (by first | (with_reducible assumption) | assumption)
                 obtain ⟨ad221, e221, hx221_0⟩ := Kd.at_int HR1.out x6_2 p221 q221
                 obtain rfl : ad210 = ad221 := (by injection e221)
                 replace hx221_0 := (HB.out.cell (World.block_lt_of_cell? w _ hx221_0)).trans hx221_0
                 replace p221 := eq_true p221
                 replace q221 := eq_true q221
                 have p232 : 0 ≤ (x6_2 : Int) := of_decide_eq_true (by first | (with_reducible assumption) | assumption)
                 have q232 : x6_2 < (l1.length : Int) := of_decide_eq_true (by first | (with_reducible assumption) | assumption)
                 obtain ⟨ad232, e232, hx232_0⟩ := Kd.at_int HR1.out x6_2 p232 q232
                 obtain rfl : ad210 = ad232 := (by injection e232)
                 replace hx232_0 := (HB.out.cell (World.block_lt_of_cell? w _ hx232_0)).trans hx232_0
                 replace p232 := eq_true p232
                 replace q232 := eq_true q232
                 have hcz67_0 : w28.cell? ⟨gb202, 0, none⟩ = some (.int .i64 x203000_2) := (blk_cell BK202.out 0).trans rfl
                 have hcz67_1 : w28.cell? ⟨gb202, 1, none⟩ = some (.int .i64 x203001_2) := (blk_cell BK202.out 1).trans rfl
                 have hcz67_2 : w28.cell? ⟨gb202, 2, none⟩ = some (u203002) := (blk_cell BK202.out 2).trans rfl
                 have hcz67_3 : w28.cell? ⟨gb202, 3, none⟩ = some (.int .i64 x203003_2) := (blk_cell BK202.out 3).trans rfl
                 have hfz67_0 := blk_frozen BK202.out 0
                 have hfz67_1 := blk_frozen BK202.out 1
                 have hfz67_2 := blk_frozen BK202.out 2
                 have hfz67_3 := blk_frozen BK202.out 3
                 obtain ⟨Ao68, co68, eo68⟩ := Kd.V_slice HO_203002.out
                 subst eo68
                 go_wp2_with (first | ((with_reducible refine gate_dst (N := 92) rfl ?_); (try (refine gate_guard (by rfl) ?_; dsimp only)); refine Kd.R_lit (Kd.int .u8) _ 5 ?hg (N := 92) ?hd (xs := ([1] : List Int)) (inner := [.int .u8 1]) (ok := fun _ => True) (okp := fun _ => True) ?hr ?hp (fun _ hk => hk) trivial (Below.refl _ _) (Nat.le_refl _) (by simp) ?_; (case hd => rfl); (case hg => rfl); (case hr => first | (go_simp; done) | (go_simp; rfl)); (case hp => exact (Reps.one (show Kd.M (Kd.int .u8) _ _ _ 1 [.int .u8 1] from rfl) (Reps.none _ _))); intro v234 w69 ho70 hb hg_ hnew_; clear hg_ hnew_; (first | rw [← Ny233.out] at ho70 | (simp only [Int.reduceToNat] at ho70; rw [← Ny233.out] at ho70)); have n0_ := Aside0.mk (Kd.V_elder' (by (with_reducible repeat (first | apply Kd.V_alloc | apply Kd.V_drewN | apply Kd.V_drew)); exact HO_203002.out) (Kd.R_base ho70) hb); have n1_ := Aside0.mk (Kd.S_elder' (by (with_reducible repeat (first | apply Kd.S_alloc | apply Kd.S_drewN | apply Kd.S_drew)); exact HO209.out) (Kd.R_base ho70) hb); have n2_ := Aside0.mk (Kd.R_lower (Kd.R_newM (M := fun k_ => (w.heap.size ≤ k_)) ho70 (below_size (by repeat (first | (with_reducible first | exact HB.out | apply below_alloc | apply pw_below_drewN | apply below_drew1 | refine below_set ?_ GE202.out) | exact HB.out))) (fun k_ h_ => h_)) (below_size (by repeat (first | (with_reducible first | exact HB.out | apply below_alloc | apply pw_below_drewN | apply below_drew1 | refine below_set ?_ GE202.out) | exact HB.out)))); have n3_ := Aside0.mk (blk_below (g := gb202) (o := .cells #[.int .i64 x203000_2, .int .i64 x203001_2, .slice Ao68 x203002_2.length co68, .int .i64 x203003_2] 24 (0, 0)) (by (with_reducible repeat (first | refine blk_drewN ?_ _ | refine blk_drew ?_ | refine blk_alloc ?_ _)); exact BK202.out) hb); have n4_ := Aside0.mk (below_step (by repeat (first | (with_reducible first | exact HB.out | apply below_alloc | apply pw_below_drewN | apply below_drew1 | refine below_set ?_ GE202.out) | exact HB.out)) hb); clear HO_203002; clear HO209; clear BK202; clear HB; have HO_203002 := n0_; have HO209 := n1_; have HO235 := n2_; have BK202 := n3_; have HB := n4_; clear n0_ n1_ n2_ n3_ n4_; clear hb ho70; obtain ⟨Ao71, co71, eo71⟩ := Kd.R_slice HO235.out; subst eo71) | ((with_reducible refine gate_callee (f := 18) rfl ?_); refine goesL_ (some 93) rfl rfl Try.func18 (by kernel_rfl) rfl #[.agg #[.int .i64 x203000_2, .int .i64 x203001_2, .slice Ao68 x203002_2.length co68, .int .i64 x203003_2], .slice Ao71 y233.length co71, .int .i64 2147483647] rfl (by (try simp only [List.map_toArray, List.map_cons, List.map_nil]); first | done | rfl | (simp only [List.length_drop, List.length_take]; rfl)) ?_; (with_reducible refine (send_Push.calls kj23 x203000_2 x203001_2 _ _ x203002_2 x203003_2 _ _ y233 2147483647 t236 t237 t238 t241 t242 _ ?side1 ?side2 ?side3 ?side4 A50.out).mono ?_); (case side1 => repeat (first | exact (Kd.V_reads' HO_203002.out).2.2 | (with_reducible refine Kd.C_alloc ?_ _) | (with_reducible refine Kd.C_drewN ?_ _) | (with_reducible refine Kd.C_drew ?_))); (case side2 => exact (Kd.V_reads' HO_203002.out).2.1); (case side3 => repeat (first | exact (Kd.R_reads' HO235.out).2.2 | (with_reducible refine Kd.C_alloc ?_ _) | (with_reducible refine Kd.C_drewN ?_ _) | (with_reducible refine Kd.C_drew ?_))); (case side4 => exact (Kd.R_reads' HO235.out).2.1); rintro e w72 ⟨v239, rfl, ho0, hb⟩; refine ⟨_, rfl, ?_⟩; have n0_ := Aside0.mk (Kd.V_elder' (by (with_reducible repeat (first | apply Kd.V_alloc | apply Kd.V_drewN | apply Kd.V_drew)); exact HO_203002.out) (Kd.S_base ho0) hb); have n1_ := Aside0.mk (Kd.S_below (by (with_reducible repeat (first | apply Kd.S_alloc | apply Kd.S_drewN | apply Kd.S_drew)); exact HO209.out) hb); have n2_ := Aside0.mk (Kd.R_below (by (with_reducible repeat (first | apply Kd.R_alloc | apply Kd.R_drewN | apply Kd.R_drew)); exact HO235.out) hb); have n3_ := Aside0.mk (Kd.S_lower (Kd.S_new' (Kd.S_newM (M := fun k_ => (w.heap.size ≤ k_)) ho0 (below_size (by repeat (first | (with_reducible first | exact HB.out | apply below_alloc | apply pw_below_drewN | apply below_drew1 | refine below_set ?_ GE202.out) | exact HB.out))) (fun k_ h_ => h_)) (Kd.R_lt (by (with_reducible repeat (first | apply Kd.R_alloc | apply Kd.R_drewN | apply Kd.R_drew)); exact HO235.out))) (below_size (by repeat (first | (with_reducible first | exact HB.out | apply below_alloc | apply pw_below_drewN | apply below_drew1 | refine below_set ?_ GE202.out) | exact HB.out)))); have n4_ := Aside0.mk (blk_below (g := gb202) (o := .cells #[.int .i64 x203000_2, .int .i64 x203001_2, .slice Ao68 x203002_2.length co68, .int .i64 x203003_2] 24 (0, 0)) (by (with_reducible repeat (first | refine blk_drewN ?_ _ | refine blk_drew ?_ | refine blk_alloc ?_ _)); exact BK202.out) hb); have n5_ := Aside0.mk (below_step (by repeat (first | (with_reducible first | exact HB.out | apply below_alloc | apply pw_below_drewN | apply below_drew1 | refine below_set ?_ GE202.out) | exact HB.out)) hb); clear HO_203002; clear HO209; clear HO235; clear BK202; clear HB; have HO_203002 := n0_; have HO209 := n1_; have HO235 := n2_; have HO240 := n3_; have BK202 := n4_; have HB := n5_; clear n0_ n1_ n2_ n3_ n4_ n5_; (try clear hb); (try clear hb2); (try clear hk); (try clear hi); (try clear ho0)) | ((with_reducible refine gate_dst (N := 11) rfl ?_); (try (refine gate_guard (by rfl) ?_; dsimp only)); refine box_event ?hg (N := 11) ?hd (cs := #[.int .i64 0, .int .i64 0, .slice none 0 0, .int .i64 0]) (t := 24) ?hr ?_; (case hd => rfl); (case hg => rfl); (case hr => first | (go_simp; done) | (go_simp; rfl)); intro gb243 hg w73 hbox hb; have n0_ := Aside0.mk (Kd.V_below (Kd.V_elderB (by (with_reducible repeat (first | apply Kd.V_alloc | apply Kd.V_drewN | apply Kd.V_drew)); exact HO_203002.out) gb243 (Nat.le_of_eq hg.symm)) hb); have n1_ := Aside0.mk (Kd.S_below (by (with_reducible repeat (first | apply Kd.S_alloc | apply Kd.S_drewN | apply Kd.S_drew)); exact HO209.out) hb); have n2_ := Aside0.mk (Kd.R_below (by (with_reducible repeat (first | apply Kd.R_alloc | apply Kd.R_drewN | apply Kd.R_drew)); exact HO235.out) hb); have n3_ := Aside0.mk (Kd.S_below (by (with_reducible repeat (first | apply Kd.S_alloc | apply Kd.S_drewN | apply Kd.S_drew)); exact HO240.out) hb); have n4_ := Aside0.mk (blk_below (g := gb202) (o := .cells #[.int .i64 x203000_2, .int .i64 x203001_2, .slice Ao68 x203002_2.length co68, .int .i64 x203003_2] 24 (0, 0)) (by (with_reducible repeat (first | refine blk_drewN ?_ _ | refine blk_drew ?_ | refine blk_alloc ?_ _)); exact BK202.out) hb); have n5_ := Aside0.mk (below_step (by repeat (first | (with_reducible first | exact HB.out | apply below_alloc | apply pw_below_drewN | apply below_drew1 | refine below_set ?_ GE202.out) | exact HB.out)) hb); have n6_ := Aside0.mk (hbox); have n7_ := Aside0.mk ((by rw [hg]; exact (below_size (by repeat (first | (with_reducible first | exact HB.out | apply below_alloc | apply pw_below_drewN | apply below_drew1 | refine below_set ?_ GE202.out) | exact HB.out))) : w.heap.size ≤ gb243)); have n8_ := Aside0.mk ((by rw [hg]; exact (below_size (by repeat (first | (with_reducible first | exact HB.out | apply below_alloc | apply pw_below_drewN | apply below_drew1 | refine below_set ?_ GE202.out) | exact HB.out))) : w.heap.size ≤ gb243)); have n9_ := Aside0.mk ((by rw [hg]; exact Nat.ne_of_lt (blk_lt (g := gb202) (o := .cells #[.int .i64 x203000_2, .int .i64 x203001_2, .slice Ao68 x203002_2.length co68, .int .i64 x203003_2] 24 (0, 0)) (by (with_reducible repeat (first | refine blk_drewN ?_ _ | refine blk_drew ?_ | refine blk_alloc ?_ _)); exact BK202.out)) : gb202 ≠ gb243)); have n10_ := Aside0.mk ((by rw [hg]; exact Nat.ne_of_gt (blk_lt (g := gb202) (o := .cells #[.int .i64 x203000_2, .int .i64 x203001_2, .slice Ao68 x203002_2.length co68, .int .i64 x203003_2] 24 (0, 0)) (by (with_reducible repeat (first | refine blk_drewN ?_ _ | refine blk_drew ?_ | refine blk_alloc ?_ _)); exact BK202.out)) : gb243 ≠ gb202)); clear HO_203002; clear HO209; clear HO235; clear HO240; clear BK202; clear HB; have HO_203002 := n0_; have HO209 := n1_; have HO235 := n2_; have HO240 := n3_; have BK202 := n4_; have HB := n5_; have BK243 := n6_; have GW243 := n7_; have GE243 := n8_; have NB202_243 := n9_; have NB243_202 := n10_; clear n0_ n1_ n2_ n3_ n4_ n5_ n6_ n7_ n8_ n9_ n10_; clear hb hbox hg; have hnb74 := NB243_202.out; have hnc74 := NB202_243.out; have hcz75_0 : w73.cell? ⟨gb243, 0, none⟩ = some (.int .i64 0) := (blk_cell BK243.out 0).trans rfl; have hcz75_1 : w73.cell? ⟨gb243, 1, none⟩ = some (.int .i64 0) := (blk_cell BK243.out 1).trans rfl; have hcz75_2 : w73.cell? ⟨gb243, 2, none⟩ = some (.slice none 0 0) := (blk_cell BK243.out 2).trans rfl; have hcz75_3 : w73.cell? ⟨gb243, 3, none⟩ = some (.int .i64 0) := (blk_cell BK243.out 3).trans rfl; have hfz75_0 := blk_frozen BK243.out 0; have hfz75_1 := blk_frozen BK243.out 1; have hfz75_2 := blk_frozen BK243.out 2; have hfz75_3 := blk_frozen BK243.out 3; obtain ⟨Ao76, co76, eo76⟩ := Kd.S_slice HO240.out; subst eo76) | ((with_reducible refine gate_store (t := 24) (p := 11) rfl ?_); refine store_event (t := 24) (p := 11) (v := ?vo_w77) (w1 := ((((w73.setCell ⟨gb243, 0, none⟩ (.int .i64 t236)).setCell ⟨gb243, 1, none⟩ (.int .i64 t237)).setCell ⟨gb243, 2, none⟩ (.slice Ao76 t238.length co76)).setCell ⟨gb243, 3, none⟩ (.int .i64 t241))) ?hg ?ho ?hn ?hr ?_; (case ho => rfl); (case hg => rfl); (case hn => rfl); (case hr => first | (go_simp; done) | (go_simp; rfl)); intro w77 hw; have n0_ : Aside0 (Kd.V (Kd.slice 5 (Kd.int .u8)) 42 w77 w.heap.size (fun k_ => (P0_2_ k_ ∨ w.heap.size ≤ k_) ∧ some k_ ≠ (v208 : Value).ownBlock ∧ some k_ ≠ (.slice Ao71 y233.length co71 : Value).ownBlock ∧ some k_ ≠ (.slice Ao76 t238.length co76 : Value).ownBlock ∧ k_ ≠ gb202 ∧ k_ ≠ gb243) (.slice Ao68 x203002_2.length co68) x203002_2) := ⟨(by rw [hw]; exact (by (with_reducible repeat (first | apply Kd.V_alloc | apply Kd.V_drewN | apply Kd.V_drew)); exact Kd.V_mono (Kd.V_far (p := ⟨gb243, 3, none⟩) (Kd.V_far (p := ⟨gb243, 2, none⟩) (Kd.V_far (p := ⟨gb243, 1, none⟩) (Kd.V_far (p := ⟨gb243, 0, none⟩) (Kd.V_mono HO_203002.out (fun k_ hk => (⟨hk, hk.2⟩ : _ ∧ k_ ≠ gb243))) (fun _ hk => hk.2) (.int .i64 t236)) (fun _ hk => hk.2) (.int .i64 t237)) (fun _ hk => hk.2) (.slice Ao76 t238.length co76)) (fun _ hk => hk.2) (.int .i64 t241)) (fun _ hk => ⟨hk.1.1.1.1.1.1, ⟨hk.1.1.1.1.2, ⟨hk.1.1.1.2, ⟨hk.1.1.2, ⟨hk.1.1.1.1.1.2, hk.1.2⟩⟩⟩⟩⟩)))⟩; have n1_ : Aside0 (Kd.S k44 44 w77 w.heap.size (fun k_ => (w.heap.size ≤ k_) ∧ some k_ ≠ (.slice Ao71 y233.length co71 : Value).ownBlock) v208 y207) := ⟨(by rw [hw]; exact (by (with_reducible repeat (first | apply Kd.S_alloc | apply Kd.S_drewN | apply Kd.S_drew)); exact Kd.S_mono (Kd.S_far (p := ⟨gb243, 3, none⟩) (Kd.S_far (p := ⟨gb243, 2, none⟩) (Kd.S_far (p := ⟨gb243, 1, none⟩) (Kd.S_far (p := ⟨gb243, 0, none⟩) (Kd.S_types HO209.out BK243.out (by decide)) (fun _ hk => hk.2) (.int .i64 t236)) (fun _ hk => hk.2) (.int .i64 t237)) (fun _ hk => hk.2) (.slice Ao76 t238.length co76)) (fun _ hk => hk.2) (.int .i64 t241)) (fun _ hk => ⟨hk.1.1.1, hk.1.2⟩)))⟩; have n2_ : Aside0 (Kd.R (Kd.int .u8) 5 w77 w.heap.size (fun k_ => (w.heap.size ≤ k_)) (.slice Ao71 y233.length co71) y233) := ⟨(by rw [hw]; exact (by (with_reducible repeat (first | apply Kd.R_alloc | apply Kd.R_drewN | apply Kd.R_drew)); exact Kd.R_mono (Kd.R_far (p := ⟨gb243, 3, none⟩) (Kd.R_far (p := ⟨gb243, 2, none⟩) (Kd.R_far (p := ⟨gb243, 1, none⟩) (Kd.R_far (p := ⟨gb243, 0, none⟩) (Kd.R_types HO235.out BK243.out (by decide)) (fun _ hk => hk.2) (.int .i64 t236)) (fun _ hk => hk.2) (.int .i64 t237)) (fun _ hk => hk.2) (.slice Ao76 t238.length co76)) (fun _ hk => hk.2) (.int .i64 t241)) (fun _ hk => hk.1.1)))⟩; have n3_ : Aside0 (Kd.S (Kd.slice 5 (Kd.int .u8)) 42 w77 w.heap.size (fun k_ => (w.heap.size ≤ k_) ∧ some k_ ≠ (.slice Ao71 y233.length co71 : Value).ownBlock) (.slice Ao76 t238.length co76) t238) := ⟨(by rw [hw]; exact (by (with_reducible repeat (first | apply Kd.S_alloc | apply Kd.S_drewN | apply Kd.S_drew)); exact Kd.S_mono (Kd.S_far (p := ⟨gb243, 3, none⟩) (Kd.S_far (p := ⟨gb243, 2, none⟩) (Kd.S_far (p := ⟨gb243, 1, none⟩) (Kd.S_far (p := ⟨gb243, 0, none⟩) (Kd.S_types HO240.out BK243.out (by decide)) (fun _ hk => hk.2) (.int .i64 t236)) (fun _ hk => hk.2) (.int .i64 t237)) (fun _ hk => hk.2) (.slice Ao76 t238.length co76)) (fun _ hk => hk.2) (.int .i64 t241)) (fun _ hk => ⟨hk.1.1.1, hk.1.2⟩)))⟩; have n4_ : Aside0 (w77.heap[gb202]? = some (.cells #[.int .i64 x203000_2, .int .i64 x203001_2, .slice Ao68 x203002_2.length co68, .int .i64 x203003_2] 24 (0, 0))) := ⟨(by rw [hw]; exact (by (with_reducible repeat (first | refine blk_drewN ?_ _ | refine blk_drew ?_ | refine blk_alloc ?_ _)); refine blk_far ?_ NB202_243.out _; (with_reducible repeat (first | refine blk_drewN ?_ _ | refine blk_drew ?_ | refine blk_alloc ?_ _)); refine blk_far ?_ NB202_243.out _; (with_reducible repeat (first | refine blk_drewN ?_ _ | refine blk_drew ?_ | refine blk_alloc ?_ _)); refine blk_far ?_ NB202_243.out _; (with_reducible repeat (first | refine blk_drewN ?_ _ | refine blk_drew ?_ | refine blk_alloc ?_ _)); refine blk_far ?_ NB202_243.out _; (with_reducible repeat (first | refine blk_drewN ?_ _ | refine blk_drew ?_ | refine blk_alloc ?_ _)); exact BK202.out))⟩; have n5_ : Aside0 (w77.heap[gb243]? = some (.cells #[.int .i64 t236, .int .i64 t237, .slice Ao76 t238.length co76, .int .i64 t241] 24 (0, 0))) := ⟨(by rw [hw]; exact (by (with_reducible repeat (first | refine blk_drewN ?_ _ | refine blk_drew ?_ | refine blk_alloc ?_ _)); refine blk_put (cs := #[.int .i64 t236, .int .i64 t237, .slice Ao76 t238.length co76, .int .i64 0]) ?_ 3 _ rfl; (with_reducible repeat (first | refine blk_drewN ?_ _ | refine blk_drew ?_ | refine blk_alloc ?_ _)); refine blk_put (cs := #[.int .i64 t236, .int .i64 t237, .slice none 0 0, .int .i64 0]) ?_ 2 _ rfl; (with_reducible repeat (first | refine blk_drewN ?_ _ | refine blk_drew ?_ | refine blk_alloc ?_ _)); refine blk_put (cs := #[.int .i64 t236, .int .i64 0, .slice none 0 0, .int .i64 0]) ?_ 1 _ rfl; (with_reducible repeat (first | refine blk_drewN ?_ _ | refine blk_drew ?_ | refine blk_alloc ?_ _)); refine blk_put (cs := #[.int .i64 0, .int .i64 0, .slice none 0 0, .int .i64 0]) ?_ 0 _ rfl; (with_reducible repeat (first | refine blk_drewN ?_ _ | refine blk_drew ?_ | refine blk_alloc ?_ _)); exact BK243.out))⟩; have n6_ : Aside0 (Below w.heap.size w w77) := ⟨(by rw [hw]; exact (by repeat (first | (with_reducible first | exact HB.out | apply below_alloc | apply pw_below_drewN | apply below_drew1 | refine below_set ?_ GE202.out | refine below_set ?_ GE243.out) | exact HB.out)))⟩; clear hw; clear HO_203002; clear HO209; clear HO235; clear HO240; clear BK202; clear BK243; clear HB; have HO_203002 := n0_; have HO209 := n1_; have HO235 := n2_; have HO240 := n3_; have BK202 := n4_; have BK243 := n5_; have HB := n6_; clear n0_ n1_ n2_ n3_ n4_ n5_ n6_))
                 go_meet
                 case rel => exact ⟨_, (x5_2), (y207), (0), (x203000_2), (x203001_2), (x203002_2), (x203003_2), (.slice Ao68 x203002_2.length co68), (by first | rfl | (simp; done) | (simp [*]; done) | (congr 1; omega) | (simp; omega)), (by first | rfl | (simp; done) | (simp [*]; done) | (congr 1; omega) | (simp; omega)), H', ⟨by have := HJ2.out; have := HK2.out; have := HJ23.out; first | omega | exact Nat.le_refl _⟩, ⟨by (with_reducible repeat (first | apply Kd.S_alloc | apply Kd.S_drewN | apply Kd.S_drew)); exact Kd.S_mono HO209.out (fun _ hk => hk.1)⟩, ⟨by (with_reducible repeat (first | apply Kd.V_alloc | apply Kd.V_drewN | apply Kd.V_drew)); exact Kd.V_mono HO_203002.out (fun _ hk => ⟨hk.1, ⟨hk.2.1, hk.2.2.2.2.1⟩⟩)⟩, ⟨by (with_reducible repeat (first | refine blk_drewN ?_ _ | refine blk_drew ?_ | refine blk_alloc ?_ _)); exact BK202.out⟩, ⟨by repeat (first | (with_reducible first | exact HB.out | apply below_alloc | apply pw_below_drewN | apply below_drew1 | refine below_set ?_ GE202.out | refine below_set ?_ GE243.out) | exact HB.out)⟩⟩
                ·rw [if_neg c66] at H
                 have c66b0 : (t242 == 2) = false := beq_eq_false_iff_ne.mpr c66
                 have c66b1 : (t242 != 2) = true := bne_iff_ne.mpr c66
                 exact absurd ((Option.some.inj H).trans HR_.out) (by simp)
              ·rw [if_neg c49] at H
               have c49b0 : ((rd l1 x6_2) == 0) = false := beq_eq_false_iff_ne.mpr c49
               have c49b1 : ((rd l1 x6_2) != 0) = true := bne_iff_ne.mpr c49
               replace H := Option.bind_eq_some_iff.mp H
               obtain ⟨⟨t245, t246, t247, t250, t251⟩, A780, H⟩ := H
               replace H : (withylaw14_SendNumbers.j3 kj23 l1 x5_2 x6_2 y207 t251 x203000_2 t245 t246 t247 t250) = some r := H
               have A78 := Aside0.mk A780
               clear A780
               have H' := Aside0.mk H
               clear H
               have p210 : 0 ≤ (x6_2 : Int) := of_decide_eq_true (by first | (with_reducible assumption) | assumption)
               have q210 : x6_2 < (l1.length : Int) := of_decide_eq_true (by first | (with_reducible assumption) | assumption)
               obtain ⟨ad210, e210, hx210_0⟩ := Kd.at_int HR1.out x6_2 p210 q210
               cases e210
               replace hx210_0 := (HB.out.cell (World.block_lt_of_cell? w _ hx210_0)).trans hx210_0
               replace p210 := eq_true p210
               replace q210 := eq_true q210
               have p221 : 0 ≤ (x6_2 : Int) := of_decide_eq_true (by first | (with_reducible assumption) | assumption)
               have q221 : x6_2 < (l1.length : Int) := of_decide_eq_true (by first | (with_reducible assumption) | assumption)
               obtain ⟨ad221, e221, hx221_0⟩ := Kd.at_int HR1.out x6_2 p221 q221
               obtain rfl : ad210 = ad221 := (by injection e221)
               replace hx221_0 := (HB.out.cell (World.block_lt_of_cell? w _ hx221_0)).trans hx221_0
               replace p221 := eq_true p221
               replace q221 := eq_true q221
               have p232 : 0 ≤ (x6_2 : Int) := of_decide_eq_true (by first | (with_reducible assumption) | assumption)
               have q232 : x6_2 < (l1.length : Int) := of_decide_eq_true (by first | (with_reducible assumption) | assumption)
               obtain ⟨ad232, e232, hx232_0⟩ := Kd.at_int HR1.out x6_2 p232 q232
               obtain rfl : ad210 = ad232 := (by injection e232)
               replace hx232_0 := (HB.out.cell (World.block_lt_of_cell? w _ hx232_0)).trans hx232_0
               replace p232 := eq_true p232
               replace q232 := eq_true q232
               try go_wp2
               have n0_ := Aside0.mk (Kd.V_drew HO_203002.out)
               have n1_ := Aside0.mk (Kd.S_drew HO209.out)
               have n2_ := Aside0.mk (blk_drew BK202.out)
               have n3_ := Aside0.mk (below_drew1 HB.out)
               clear HO_203002
               clear HO209
               clear BK202
               clear HB
               have HO_203002 := n0_
               have HO209 := n1_
               have BK202 := n2_
               have HB := n3_
               clear n0_ n1_ n2_ n3_
               have p244 : 0 ≤ (x6_2 : Int) := of_decide_eq_true (by first | (with_reducible assumption) | assumption)
               have q244 : x6_2 < (l1.length : Int) := of_decide_eq_true (by first | (with_reducible assumption) | assumption)
               obtain ⟨ad244, e244, hx244_0⟩ := Kd.at_int HR1.out x6_2 p244 q244
               have hw244_0 := hx244_0
               obtain rfl : ad210 = ad244 := (by injection e244)
               replace hx244_0 := (HB.out.cell (World.block_lt_of_cell? w _ hx244_0)).trans hx244_0
               replace p244 := eq_true p244
               replace q244 := eq_true q244
               obtain ⟨Ao80, co80, eo80⟩ := Kd.V_slice HO_203002.out
               (first | subst eo80 | (injection eo80 with f1_ f2_ f3_; have f4_ := f1_.symm; have f5_ := f3_.symm; clear f1_ f2_ f3_; subst f4_; subst f5_))
               refine start_ (n := 15) (S := fun w' => w'.cell? ⟨gb202, 0, none⟩ = some (.int .i64 x203000_2) ∧ w'.cell? ⟨gb202, 1, none⟩ = some (.int .i64 x203001_2) ∧ w'.cell? ⟨gb202, 2, none⟩ = some (.slice Ao80 x203002_2.length co80) ∧ w'.cell? ⟨gb202, 3, none⟩ = some (.int .i64 x203003_2) ∧ w'.cell? (ad210.add (x6_2).toNat) = some (.int .i64 (rd l1 x6_2))) (ds := [13]) #[false, false, false, false, false, false, false, false, false, false, false, false, false, false, false] (by kernel_rfl) rfl rfl ⟨(blk_cell BK202.out 0).trans rfl, (blk_cell BK202.out 1).trans rfl, (blk_cell BK202.out 2).trans rfl, (blk_cell BK202.out 3).trans rfl, ((HB.out.cell (World.block_lt_of_cell? w _ hw244_0)).trans hw244_0)⟩ (fun hHeld => ?_); refine with_tabW withylaw14_SendNumbers.tab10 withylaw14_SendNumbers.bits10 (fun HT_ HW_ => ?_)
               generalize w28.drew = w79 at HO_203002 HO209 BK202 HB hx244_0 hHeld ⊢
               refine pure_ (i := 1) (N := some 46) (v := ?_) (a' := ?_) #[false, true, false, false, false, false, false, false, false, false, false, false, false, false, false] rfl rfl (any_of HT_.out (by kernel_rfl)) (fun _ _ _ h => h) (Or.inl ⟨by rfl, ?_⟩) ?_ ?_
               rotate_left
               ·intro w'
                go_simp
                with_reducible rfl
               rotate_left
               ·simp only [Act.put, List.setIfInBounds_toArray, List.set_cons_zero, List.set_cons_succ, i64_w, i32_w]
                rfl
               refine pure_ (i := 3) (N := some 48) (v := ?_) (a' := ?_) #[false, true, false, true, false, false, false, false, false, false, false, false, false, false, false] rfl rfl (any_of HT_.out (by kernel_rfl)) (fun _ _ _ h => h) (Or.inl ⟨by rfl, ?_⟩) ?_ ?_
               rotate_left
               ·intro w'
                go_simp
                with_reducible rfl
               rotate_left
               ·simp only [Act.put, List.setIfInBounds_toArray, List.set_cons_zero, List.set_cons_succ, i64_w, i32_w]
                rfl
               refine pure_ (i := 4) (N := some 49) (v := ?_) (a' := ?_) #[false, true, false, true, true, false, false, false, false, false, false, false, false, false, false] rfl rfl (any_of HT_.out (by kernel_rfl)) (fun _ _ _ h => h) (Or.inl ⟨by rfl, ?_⟩) ?_ ?_
               rotate_left
               ·intro w'
                go_simp
                with_reducible rfl
               rotate_left
               ·simp only [Act.put, List.setIfInBounds_toArray, List.set_cons_zero, List.set_cons_succ, i64_w, i32_w]
                rfl
               refine pure_ (i := 5) (N := some 50) (v := ?_) (a' := ?_) #[false, true, false, true, true, true, false, false, false, false, false, false, false, false, false] rfl rfl (any_of HT_.out (by kernel_rfl)) (fun _ _ _ h => h) (Or.inl ⟨by rfl, ?_⟩) ?_ ?_
               rotate_left
               ·intro w'
                go_simp
                with_reducible rfl
               rotate_left
               ·simp only [Act.put, List.setIfInBounds_toArray, List.set_cons_zero, List.set_cons_succ, i64_w, i32_w]
                rfl
               refine take_ (i := 0) (N := some 45) (v := ?_) (a' := ?_) #[true, true, false, true, true, true, false, false, false, false, false, false, false, false, false] rfl rfl (take_ofW HT_.out HW_.out (by kernel_rfl)) (fun _ _ _ h => h) (Or.inl ⟨by rfl, ?_⟩) hHeld ?_ ?_
               rotate_left
               ·rintro w' ⟨s0, s1, s2, s3, s4⟩
                go_simp
                with_reducible rfl
               rotate_left
               ·simp only [Act.put, List.setIfInBounds_toArray, List.set_cons_zero, List.set_cons_succ, i64_w, i32_w]
                rfl
               refine take_ (i := 2) (N := some 47) (v := ?_) (a' := ?_) #[true, true, true, true, true, true, false, false, false, false, false, false, false, false, false] rfl rfl (take_ofW HT_.out HW_.out (by kernel_rfl)) (fun _ _ _ h => h) (Or.inl ⟨by rfl, ?_⟩) hHeld ?_ ?_
               rotate_left
               ·rintro w' ⟨s0, s1, s2, s3, s4⟩
                go_simp
                with_reducible rfl
               rotate_left
               ·simp only [Act.put, List.setIfInBounds_toArray, List.set_cons_zero, List.set_cons_succ, i64_w, i32_w]
                rfl
               refine take_ (i := 6) (N := some 51) (v := ?_) (a' := ?_) #[true, true, true, true, true, true, true, false, false, false, false, false, false, false, false] rfl rfl (take_ofW HT_.out HW_.out (by kernel_rfl)) (fun _ _ _ h => h) (Or.inl ⟨by rfl, ?_⟩) hHeld ?_ ?_
               rotate_left
               ·rintro w' ⟨s0, s1, s2, s3, s4⟩
                go_simp
                with_reducible rfl
               rotate_left
               ·simp only [Act.put, List.setIfInBounds_toArray, List.set_cons_zero, List.set_cons_succ, i64_w, i32_w]
                rfl
               refine pure_ (i := 7) (N := some 52) (v := ?_) (a' := ?_) #[true, true, true, true, true, true, true, true, false, false, false, false, false, false, false] rfl rfl (any_of HT_.out (by kernel_rfl)) (fun _ _ _ h => h) (Or.inl ⟨by rfl, ?_⟩) ?_ ?_
               rotate_left
               ·intro w'
                go_simp
                with_reducible rfl
               rotate_left
               ·simp only [Act.put, List.setIfInBounds_toArray, List.set_cons_zero, List.set_cons_succ, i64_w, i32_w]
                rfl
               refine pure_ (i := 8) (N := some 53) (v := ?_) (a' := ?_) #[true, true, true, true, true, true, true, true, true, false, false, false, false, false, false] rfl rfl (any_of HT_.out (by kernel_rfl)) (fun _ _ _ h => h) (Or.inl ⟨by rfl, ?_⟩) ?_ ?_
               rotate_left
               ·intro w'
                go_simp
                with_reducible rfl
               rotate_left
               ·simp only [Act.put, List.setIfInBounds_toArray, List.set_cons_zero, List.set_cons_succ, i64_w, i32_w]
                rfl
               refine one_ (i := 9) (N := some 54) #[true, true, true, true, true, true, true, true, true, true, false, false, false, false, false] rfl rfl (one_of HT_.out (by kernel_rfl)) (by decide) (fun K hK => ?_)
               refine goes_ Try.func9 (by kernel_rfl) rfl #[.agg #[.int .i64 x203000_2, .int .i64 x203001_2, .slice Ao80 x203002_2.length co80, .int .i64 x203003_2], .int .i64 (wrap64 (x203000_2 + (Int.tmod (rd l1 x6_2) 20)))] (by rfl) rfl rfl (by (try simp only [List.map_toArray, List.map_cons, List.map_nil]); first | done | rfl | (simp only [List.length_drop, List.length_take]; rfl)) ?_
               with_reducible refine (send_Ack.calls kj23 x203000_2 x203001_2 _ _ x203002_2 x203003_2 (wrap64 (x203000_2 + (Int.tmod (rd l1 x6_2) 20))) t245 t246 t247 t250 t251 _ ?side1 ?side2 A78.out).mono ?_
               (case side1 => repeat (first | exact (Kd.V_reads' HO_203002.out).2.2 | (with_reducible refine Kd.C_alloc ?_ _) | (with_reducible refine Kd.C_drewN ?_ _) | (with_reducible refine Kd.C_drew ?_)))
               (case side2 => exact (Kd.V_reads' HO_203002.out).2.1)
               rintro e w81 ⟨v248, rfl, ho0, hb⟩
               refine ⟨_, rfl, ?_⟩
               have n0_ := Aside0.mk (Kd.V_below (by (with_reducible repeat (first | apply Kd.V_alloc | apply Kd.V_drewN | apply Kd.V_drew)); exact HO_203002.out) hb)
               have n1_ := Aside0.mk (Kd.S_below (by (with_reducible repeat (first | apply Kd.S_alloc | apply Kd.S_drewN | apply Kd.S_drew)); exact HO209.out) hb)
               have n2_ := Aside0.mk (Kd.V_lower (Kd.V_mono (ok' := fun k_ => (P0_2_ k_ ∨ w.heap.size ≤ k_) ∧ some k_ ≠ (v208 : Value).ownBlock ∧ k_ ≠ gb202) ho0 (fun k_ hk_ => ⟨(.inr (Nat.le_trans (below_size (by repeat (first | (with_reducible first | exact HB.out | apply below_alloc | apply pw_below_drewN | apply below_drew1 | refine below_set ?_ GE202.out) | exact HB.out))) hk_)), (Kd.fresh' (Kd.S_lt (by (with_reducible repeat (first | apply Kd.S_alloc | apply Kd.S_drewN | apply Kd.S_drew)); exact HO209.out)) k_ hk_), (Kd.freshB (g := gb202) (o := .cells #[.int .i64 x203000_2, .int .i64 x203001_2, .slice Ao80 x203002_2.length co80, .int .i64 x203003_2] 24 (0, 0)) (by (with_reducible repeat (first | refine blk_drewN ?_ _ | refine blk_drew ?_ | refine blk_alloc ?_ _)); exact BK202.out) k_ hk_)⟩)) (below_size (by repeat (first | (with_reducible first | exact HB.out | apply below_alloc | apply pw_below_drewN | apply below_drew1 | refine below_set ?_ GE202.out) | exact HB.out))))
               have n3_ := Aside0.mk (blk_below (g := gb202) (o := .cells #[.int .i64 x203000_2, .int .i64 x203001_2, .slice Ao80 x203002_2.length co80, .int .i64 x203003_2] 24 (0, 0)) (by (with_reducible repeat (first | refine blk_drewN ?_ _ | refine blk_drew ?_ | refine blk_alloc ?_ _)); exact BK202.out) hb)
               have n4_ := Aside0.mk (below_step (by repeat (first | (with_reducible first | exact HB.out | apply below_alloc | apply pw_below_drewN | apply below_drew1 | refine below_set ?_ GE202.out) | exact HB.out)) hb)
               clear HO_203002
               clear HO209
               clear BK202
               clear HB
               have HO_203002 := n0_
               have HO209 := n1_
               have HO249 := n2_
               have BK202 := n3_
               have HB := n4_
               clear n0_ n1_ n2_ n3_ n4_
               (try clear hb)
               (try clear hb2)
               (try clear hk)
               (try clear hi)
               (try clear ho0)
               obtain ⟨Ao84, co84, eo84⟩ := Kd.V_slice HO249.out
               (first | subst eo84 | (injection eo84 with f1_ f2_ f3_; have f4_ := f1_.symm; have f5_ := f3_.symm; clear f1_ f2_ f3_; subst f4_; subst f5_))
               refine hK.out _ _ ⟨(blk_cell BK202.out 0).trans rfl, (blk_cell BK202.out 1).trans rfl, (blk_cell BK202.out 2).trans rfl, (blk_cell BK202.out 3).trans rfl, ((HB.out.cell (World.block_lt_of_cell? w _ hw244_0)).trans hw244_0)⟩ (fun hHeld => ?_)
               clear hK K
               refine norm_ (a' := ?_) ?_ ?_
               rotate_left
               ·show Act.put _ (some 54) _ = _
                simp only [Act.put, List.setIfInBounds_toArray, List.set_cons_zero, List.set_cons_succ, i64_w, i32_w]
                rfl
               refine pure_ (i := 10) (N := some 44) (v := ?_) (a' := ?_) #[true, true, true, true, true, true, true, true, true, true, true, false, false, false, false] rfl rfl (any_of HT_.out (by kernel_rfl)) (fun _ _ _ h => h) (Or.inl ⟨by rfl, ?_⟩) ?_ ?_
               rotate_left
               ·intro w'
                go_simp
                with_reducible rfl
               rotate_left
               ·simp only [Act.put, List.setIfInBounds_toArray, List.set_cons_zero, List.set_cons_succ, i64_w, i32_w]
                rfl
               refine pure_ (i := 11) (N := some 55) (v := ?_) (a' := ?_) #[true, true, true, true, true, true, true, true, true, true, true, true, false, false, false] rfl rfl (any_of HT_.out (by kernel_rfl)) (fun _ _ _ h => h) (Or.inl ⟨by rfl, ?_⟩) ?_ ?_
               rotate_left
               ·intro w'
                go_simp
                with_reducible rfl
               rotate_left
               ·simp only [Act.put, List.setIfInBounds_toArray, List.set_cons_zero, List.set_cons_succ, i64_w, i32_w]
                rfl
               refine pure_ (i := 12) (N := some 56) (v := ?_) (a' := ?_) #[true, true, true, true, true, true, true, true, true, true, true, true, true, false, false] rfl rfl (any_of HT_.out (by kernel_rfl)) (fun _ _ _ h => h) (Or.inl ⟨by rfl, ?_⟩) ?_ ?_
               rotate_left
               ·intro w'
                go_simp
                with_reducible rfl
               rotate_left
               ·simp only [Act.put, List.setIfInBounds_toArray, List.set_cons_zero, List.set_cons_succ, i64_w, i32_w]
                rfl
               refine last_ (i := 13) (N := none) #[true, true, true, true, true, true, true, true, true, true, true, true, true, true, false] rfl rfl (one_of HT_.out (by kernel_rfl)) (by decide) (fun K hK => ?_)
               have hs82 : w81.cell? ⟨gb202, 0, none⟩ = some (.int .i64 x203000_2) := (blk_cell BK202.out 0).trans rfl
               have hfs82 := blk_frozen BK202.out 0
               have hs83 : w81.cell? ⟨gb202, 1, none⟩ = some (.int .i64 x203001_2) := (blk_cell BK202.out 1).trans rfl
               have hfs83 := blk_frozen BK202.out 1
               have hs85 : w81.cell? ⟨gb202, 2, none⟩ = some (.slice Ao80 x203002_2.length co80) := (blk_cell BK202.out 2).trans rfl
               have hfs85 := blk_frozen BK202.out 2
               have hs86 : w81.cell? ⟨gb202, 3, none⟩ = some (.int .i64 x203003_2) := (blk_cell BK202.out 3).trans rfl
               have hfs86 := blk_frozen BK202.out 3
               refine skip_ (w1 := ?_) (by rfl) rfl ?_ ?_
               rotate_left
               ·go_simp
                rfl
               refine hK.out _ _ ?_
               clear hK K
               refine pure_ (i := 14) (N := some 8) (v := ?_) (a' := ?_) #[true, true, true, true, true, true, true, true, true, true, true, true, true, true, true] rfl rfl (any_of HT_.out (by kernel_rfl)) (fun _ _ _ h => h) (Or.inl ⟨by rfl, ?_⟩) ?_ ?_
               rotate_left
               ·intro w'
                go_simp
                with_reducible rfl
               rotate_left
               ·simp only [Act.put, List.setIfInBounds_toArray, List.set_cons_zero, List.set_cons_succ, i64_w, i32_w]
                rfl
               refine done_ (done_of HT_.out (by kernel_rfl)) ?_
               try go_wp2
               go_meet
               case rel => exact ⟨_, (x5_2), (y207), (t251), (t245), (t246), (t247), (t250), (.slice Ao84 t247.length co84), (by first | rfl | (simp; done) | (simp [*]; done) | (congr 1; omega) | (simp; omega)), (by first | rfl | (simp; done) | (simp [*]; done) | (congr 1; omega) | (simp; omega)), H', ⟨by have := HJ2.out; have := HK2.out; have := HJ23.out; first | omega | exact Nat.le_refl _⟩, ⟨by (with_reducible repeat (first | apply Kd.S_alloc | apply Kd.S_drewN | apply Kd.S_drew)); exact Kd.S_mono (Kd.S_far (p := ⟨gb202, 3, none⟩) (Kd.S_far (p := ⟨gb202, 2, none⟩) (Kd.S_far (p := ⟨gb202, 1, none⟩) (Kd.S_far (p := ⟨gb202, 0, none⟩) (Kd.S_types HO209.out BK202.out (by decide)) (fun _ hk => hk.2) (.int .i64 t245)) (fun _ hk => hk.2) (.int .i64 t246)) (fun _ hk => hk.2) (.slice Ao84 t247.length co84)) (fun _ hk => hk.2) (.int .i64 t250)) (fun _ hk => hk.1.1)⟩, ⟨by (with_reducible repeat (first | apply Kd.V_alloc | apply Kd.V_drewN | apply Kd.V_drew)); exact Kd.V_mono (Kd.V_far (p := ⟨gb202, 3, none⟩) (Kd.V_far (p := ⟨gb202, 2, none⟩) (Kd.V_far (p := ⟨gb202, 1, none⟩) (Kd.V_far (p := ⟨gb202, 0, none⟩) (Kd.V_mono HO249.out (fun k_ hk => (⟨hk, hk.2.2⟩ : _ ∧ k_ ≠ gb202))) (fun _ hk => hk.2) (.int .i64 t245)) (fun _ hk => hk.2) (.int .i64 t246)) (fun _ hk => hk.2) (.slice Ao84 t247.length co84)) (fun _ hk => hk.2) (.int .i64 t250)) (fun _ hk => ⟨hk.1.1, ⟨hk.1.2.1, hk.1.2.2⟩⟩)⟩, ⟨by (with_reducible repeat (first | refine blk_drewN ?_ _ | refine blk_drew ?_ | refine blk_alloc ?_ _)); refine blk_put (cs := #[.int .i64 t245, .int .i64 t246, .slice Ao84 t247.length co84, .int .i64 x203003_2]) ?_ 3 _ rfl; (with_reducible repeat (first | refine blk_drewN ?_ _ | refine blk_drew ?_ | refine blk_alloc ?_ _)); refine blk_put (cs := #[.int .i64 t245, .int .i64 t246, .slice Ao80 x203002_2.length co80, .int .i64 x203003_2]) ?_ 2 _ rfl; (with_reducible repeat (first | refine blk_drewN ?_ _ | refine blk_drew ?_ | refine blk_alloc ?_ _)); refine blk_put (cs := #[.int .i64 t245, .int .i64 x203001_2, .slice Ao80 x203002_2.length co80, .int .i64 x203003_2]) ?_ 1 _ rfl; (with_reducible repeat (first | refine blk_drewN ?_ _ | refine blk_drew ?_ | refine blk_alloc ?_ _)); refine blk_put (cs := #[.int .i64 x203000_2, .int .i64 x203001_2, .slice Ao80 x203002_2.length co80, .int .i64 x203003_2]) ?_ 0 _ rfl; (with_reducible repeat (first | refine blk_drewN ?_ _ | refine blk_drew ?_ | refine blk_alloc ?_ _)); exact BK202.out⟩, ⟨by repeat (first | (with_reducible first | exact HB.out | apply below_alloc | apply pw_below_drewN | apply below_drew1 | refine below_set ?_ GE202.out) | exact HB.out)⟩⟩
           ·rw [if_neg c32] at H
            exact absurd H (by simp)
          ·rw [if_neg c31] at H
           exact absurd H (by simp)
         case rest =>
          clear HC27
          try clear c1; try clear c2; try clear p2; try clear q2; try clear hx2; try clear c3; try clear c4; try clear c5; try clear c6; try clear p6; try clear c7; try clear c8; try clear c9; try clear c13; try clear c14; try clear c18; try clear c20; try clear p21; try clear q21; try clear hx21; try clear p22; try clear q22; try clear hx22; try clear p23; try clear q23; try clear hx23; try clear p24; try clear q24; try clear hx24; try clear c25; try clear c25b0; try clear c26; try clear c31; try clear c31b0; try clear c32; try clear c32b0; try clear c33; try clear c33b0; try clear c33b1; try clear c41; try clear c41b0; try clear c49; try clear c49b0; try clear c49b1; try clear c51; try clear c51b0; try clear c51b1; try clear c59; try clear p64; try clear c66; try clear c66b0; try clear c66b1; try clear c74; try clear hcz11_0; try clear hcz11_1; try clear hcz11_2; try clear hcz11_3; try clear hcz13_0; try clear hcz13_1; try clear hcz13_2; try clear hcz13_3; try clear hcz14_0; try clear hcz14_1; try clear hcz14_2; try clear hcz14_3; try clear hcz16_0; try clear hcz16_1; try clear hcz16_2; try clear hcz16_3; try clear hcz18_0; try clear hcz18_1; try clear hcz18_2; try clear hcz18_3; try clear hcz23_0; try clear hcz23_1; try clear hcz23_2; try clear hcz23_3; try clear hcz30_0; try clear hcz30_1; try clear hcz30_2; try clear hcz30_3; try clear hcz35_0; try clear hcz35_1; try clear hcz35_2; try clear hcz35_3; try clear hcz38_0; try clear hcz38_1; try clear hcz38_2; try clear hcz38_3; try clear hcz43_0; try clear hcz43_1; try clear hcz43_2; try clear hcz43_3; try clear hcz46_0; try clear hcz46_1; try clear hcz46_2; try clear hcz46_3; try clear hcz52_0; try clear hcz52_1; try clear hcz52_2; try clear hcz52_3; try clear hcz60_0; try clear hcz60_1; try clear hcz60_2; try clear hcz60_3; try clear hcz63_0; try clear hcz63_1; try clear hcz63_2; try clear hcz63_3; try clear hcz64_0; try clear hcz64_1; try clear hcz64_2; try clear hcz64_3; try clear hcz67_0; try clear hcz67_1; try clear hcz67_2; try clear hcz67_3; try clear hcz75_0; try clear hcz75_1; try clear hcz75_2; try clear hcz75_3; try clear hcz9_0; try clear hcz9_1; try clear hcz9_2; try clear hcz9_3; try clear hfz11_0; try clear hfz11_1; try clear hfz11_2; try clear hfz11_3; try clear hfz13_0; try clear hfz13_1; try clear hfz13_2; try clear hfz13_3; try clear hfz14_0; try clear hfz14_1; try clear hfz14_2; try clear hfz14_3; try clear hfz16_0; try clear hfz16_1; try clear hfz16_2; try clear hfz16_3; try clear hfz18_0; try clear hfz18_1; try clear hfz18_2; try clear hfz18_3; try clear hfz23_0; try clear hfz23_1; try clear hfz23_2; try clear hfz23_3; try clear hfz30_0; try clear hfz30_1; try clear hfz30_2; try clear hfz30_3; try clear hfz35_0; try clear hfz35_1; try clear hfz35_2; try clear hfz35_3; try clear hfz38_0; try clear hfz38_1; try clear hfz38_2; try clear hfz38_3; try clear hfz43_0; try clear hfz43_1; try clear hfz43_2; try clear hfz43_3; try clear hfz46_0; try clear hfz46_1; try clear hfz46_2; try clear hfz46_3; try clear hfz52_0; try clear hfz52_1; try clear hfz52_2; try clear hfz52_3; try clear hfz60_0; try clear hfz60_1; try clear hfz60_2; try clear hfz60_3; try clear hfz63_0; try clear hfz63_1; try clear hfz63_2; try clear hfz63_3; try clear hfz64_0; try clear hfz64_1; try clear hfz64_2; try clear hfz64_3; try clear hfz67_0; try clear hfz67_1; try clear hfz67_2; try clear hfz67_3; try clear hfz75_0; try clear hfz75_1; try clear hfz75_2; try clear hfz75_3; try clear hfz9_0; try clear hfz9_1; try clear hfz9_2; try clear hfz9_3; try clear hx210_0; try clear hx221_0; try clear hx232_0; try clear hx244_0; try clear p2; try clear p210; try clear p221; try clear p232; try clear p244; try clear q210; try clear q221; try clear q232; try clear q244
          obtain ⟨kq, x5_26, x7_26, x8_26, x203000_26, x203001_26, x203002_26, x203003_26, u203002, rfl, rfl, HA, HJ26, HO_7, HO_203002, BK202, HB⟩ := hcut
          cases kq with
          | zero => exact absurd HA.out (by simp [withylaw14_SendNumbers.j3])
          | succ kj26 =>
           have H := HA.out
           clear HA
           simp only [withylaw14_SendNumbers.j3] at H
           have HC87 := Aside0.mk H
           clear H
           go_upto_region 23 with (fail)
           go_cut [127] (fun v127 wc => ∃ (kq : Nat) (x127_86 : Bool), v127 = .bool x127_86 ∧ Aside0 (withylaw14_SendNumbers.j4 kq l1 x6_2 x7_26 x127_86 x203000_26 x203001_26 x203002_26 x203003_26 = some r) ∧ Aside0 (kq ≤ kj26) ∧ Aside0 (Kd.S k44 44 wc w.heap.size (fun k_ => (w.heap.size ≤ k_)) u7 x7_26) ∧ Aside0 (Kd.V (Kd.slice 5 (Kd.int .u8)) 42 wc w.heap.size (fun k_ => (P0_2_ k_ ∨ w.heap.size ≤ k_) ∧ some k_ ≠ (u7 : Value).ownBlock ∧ k_ ≠ gb202) u203002 x203002_26) ∧ Aside0 (wc.heap[gb202]? = some (.cells #[.int .i64 x203000_26, .int .i64 x203001_26, u203002, .int .i64 x203003_26] 24 (0, 0))) ∧ Aside0 (Below w.heap.size w wc))
           case first =>
            have H := HC87.out
            clear HC87
            by_cases c88 : x8_26 = 0
            ·rw [if_pos c88] at H
             have c88b0 : (x8_26 == 0) = true := beq_iff_eq.mpr c88
             have c88b1 : (x8_26 != 0) = false := bne_eq_false_iff_eq.mpr c88
             clear c88
             (first | rw [c88b0] | (simp only [i64_w, i32_w]; rw [c88b0]) | skip)
             by_cases c89 : (x7_26.length : Int) > 16
             ·rw [if_pos c89] at H
              have c89b0 : decide (16 < (x7_26.length : Int)) = true := decide_eq_true c89
              have c89b1 : decide (16 < x7_26.length) = true := decide_eq_true (by omega)
              clear c89
              exact absurd ((by cases kj26 with | zero => exact absurd H (by simp [withylaw14_SendNumbers.j4]) | succ k_ => (simp only [withylaw14_SendNumbers.j4, if_true] at H; exact (Option.some.inj H).symm) : r = false).symm.trans HR_.out) (by simp)
             ·rw [if_neg c89] at H
              have c89b0 : decide (16 < (x7_26.length : Int)) = false := decide_eq_false c89
              have c89b1 : decide (16 < x7_26.length) = false := decide_eq_false (by omega)
              clear c89
              by_cases c90 : x203000_26 < x203000_2
              ·rw [if_pos c90] at H
               have c90b0 : decide (x203000_26 < x203000_2) = true := decide_eq_true c90
               clear c90
               exact absurd ((by cases kj26 with | zero => exact absurd H (by simp [withylaw14_SendNumbers.j4]) | succ k_ => (simp only [withylaw14_SendNumbers.j4, if_true] at H; exact (Option.some.inj H).symm) : r = false).symm.trans HR_.out) (by simp)
              ·rw [if_neg c90] at H
               have c90b0 : decide (x203000_26 < x203000_2) = false := decide_eq_false c90
               clear c90
               have H' := Aside0.mk H
               clear H
               obtain ⟨Ao91, co91, eo91⟩ := Kd.S_slice HO_7.out
               subst eo91
               have hcz92_0 : wc.cell? ⟨gb202, 0, none⟩ = some (.int .i64 x203000_26) := (blk_cell BK202.out 0).trans rfl
               have hcz92_1 : wc.cell? ⟨gb202, 1, none⟩ = some (.int .i64 x203001_26) := (blk_cell BK202.out 1).trans rfl
               have hcz92_2 : wc.cell? ⟨gb202, 2, none⟩ = some (u203002) := (blk_cell BK202.out 2).trans rfl
               have hcz92_3 : wc.cell? ⟨gb202, 3, none⟩ = some (.int .i64 x203003_26) := (blk_cell BK202.out 3).trans rfl
               have hfz92_0 := blk_frozen BK202.out 0
               have hfz92_1 := blk_frozen BK202.out 1
               have hfz92_2 := blk_frozen BK202.out 2
               have hfz92_3 := blk_frozen BK202.out 3
               obtain ⟨Ao93, co93, eo93⟩ := Kd.V_slice HO_203002.out
               subst eo93
               go_wp2
               go_meet
               case rel => exact ⟨_, (((x203002_26.length : Int) != (wrap64 (x5_26 - (wrap64 (x203000_26 - x203000_2)))))), (by first | rfl | (simp; done) | (simp [*]; done) | (congr 1; omega) | (simp; omega)), H', ⟨by have := HJ2.out; have := HK2.out; have := HJ23.out; have := HJ26.out; first | omega | exact Nat.le_refl _⟩, ⟨by (with_reducible repeat (first | apply Kd.S_alloc | apply Kd.S_drewN | apply Kd.S_drew)); exact HO_7.out⟩, ⟨by (with_reducible repeat (first | apply Kd.V_alloc | apply Kd.V_drewN | apply Kd.V_drew)); exact HO_203002.out⟩, ⟨by (with_reducible repeat (first | refine blk_drewN ?_ _ | refine blk_drew ?_ | refine blk_alloc ?_ _)); exact BK202.out⟩, ⟨by repeat (first | (with_reducible first | exact HB.out | apply below_alloc | apply pw_below_drewN | apply below_drew1 | refine below_set ?_ GE202.out) | exact HB.out)⟩⟩
            ·rw [if_neg c88] at H
             have c88b0 : (x8_26 == 0) = false := beq_eq_false_iff_ne.mpr c88
             have c88b1 : (x8_26 != 0) = true := bne_iff_ne.mpr c88
             (first | rw [c88b0] | (simp only [i64_w, i32_w]; rw [c88b0]) | skip)
             exact absurd ((by cases kj26 with | zero => exact absurd H (by simp [withylaw14_SendNumbers.j4]) | succ k_ => (simp only [withylaw14_SendNumbers.j4, if_true] at H; exact (Option.some.inj H).symm) : r = false).symm.trans HR_.out) (by simp)
           case rest =>
            clear HC87
            try clear c1; try clear c2; try clear p2; try clear q2; try clear hx2; try clear c3; try clear c4; try clear c5; try clear c6; try clear p6; try clear c7; try clear c8; try clear c9; try clear c13; try clear c14; try clear c18; try clear c20; try clear p21; try clear q21; try clear hx21; try clear p22; try clear q22; try clear hx22; try clear p23; try clear q23; try clear hx23; try clear p24; try clear q24; try clear hx24; try clear c25; try clear c25b0; try clear c26; try clear c31; try clear c31b0; try clear c32; try clear c32b0; try clear c33; try clear c33b0; try clear c33b1; try clear c41; try clear c41b0; try clear c49; try clear c49b0; try clear c49b1; try clear c51; try clear c51b0; try clear c51b1; try clear c59; try clear p64; try clear c66; try clear c66b0; try clear c66b1; try clear c74; try clear c88; try clear c88b0; try clear c88b1; try clear c89; try clear c89b0; try clear c89b1; try clear c90; try clear c90b0; try clear hcz11_0; try clear hcz11_1; try clear hcz11_2; try clear hcz11_3; try clear hcz13_0; try clear hcz13_1; try clear hcz13_2; try clear hcz13_3; try clear hcz14_0; try clear hcz14_1; try clear hcz14_2; try clear hcz14_3; try clear hcz16_0; try clear hcz16_1; try clear hcz16_2; try clear hcz16_3; try clear hcz18_0; try clear hcz18_1; try clear hcz18_2; try clear hcz18_3; try clear hcz23_0; try clear hcz23_1; try clear hcz23_2; try clear hcz23_3; try clear hcz30_0; try clear hcz30_1; try clear hcz30_2; try clear hcz30_3; try clear hcz35_0; try clear hcz35_1; try clear hcz35_2; try clear hcz35_3; try clear hcz38_0; try clear hcz38_1; try clear hcz38_2; try clear hcz38_3; try clear hcz43_0; try clear hcz43_1; try clear hcz43_2; try clear hcz43_3; try clear hcz46_0; try clear hcz46_1; try clear hcz46_2; try clear hcz46_3; try clear hcz52_0; try clear hcz52_1; try clear hcz52_2; try clear hcz52_3; try clear hcz60_0; try clear hcz60_1; try clear hcz60_2; try clear hcz60_3; try clear hcz63_0; try clear hcz63_1; try clear hcz63_2; try clear hcz63_3; try clear hcz64_0; try clear hcz64_1; try clear hcz64_2; try clear hcz64_3; try clear hcz67_0; try clear hcz67_1; try clear hcz67_2; try clear hcz67_3; try clear hcz75_0; try clear hcz75_1; try clear hcz75_2; try clear hcz75_3; try clear hcz92_0; try clear hcz92_1; try clear hcz92_2; try clear hcz92_3; try clear hcz9_0; try clear hcz9_1; try clear hcz9_2; try clear hcz9_3; try clear hfz11_0; try clear hfz11_1; try clear hfz11_2; try clear hfz11_3; try clear hfz13_0; try clear hfz13_1; try clear hfz13_2; try clear hfz13_3; try clear hfz14_0; try clear hfz14_1; try clear hfz14_2; try clear hfz14_3; try clear hfz16_0; try clear hfz16_1; try clear hfz16_2; try clear hfz16_3; try clear hfz18_0; try clear hfz18_1; try clear hfz18_2; try clear hfz18_3; try clear hfz23_0; try clear hfz23_1; try clear hfz23_2; try clear hfz23_3; try clear hfz30_0; try clear hfz30_1; try clear hfz30_2; try clear hfz30_3; try clear hfz35_0; try clear hfz35_1; try clear hfz35_2; try clear hfz35_3; try clear hfz38_0; try clear hfz38_1; try clear hfz38_2; try clear hfz38_3; try clear hfz43_0; try clear hfz43_1; try clear hfz43_2; try clear hfz43_3; try clear hfz46_0; try clear hfz46_1; try clear hfz46_2; try clear hfz46_3; try clear hfz52_0; try clear hfz52_1; try clear hfz52_2; try clear hfz52_3; try clear hfz60_0; try clear hfz60_1; try clear hfz60_2; try clear hfz60_3; try clear hfz63_0; try clear hfz63_1; try clear hfz63_2; try clear hfz63_3; try clear hfz64_0; try clear hfz64_1; try clear hfz64_2; try clear hfz64_3; try clear hfz67_0; try clear hfz67_1; try clear hfz67_2; try clear hfz67_3; try clear hfz75_0; try clear hfz75_1; try clear hfz75_2; try clear hfz75_3; try clear hfz92_0; try clear hfz92_1; try clear hfz92_2; try clear hfz92_3; try clear hfz9_0; try clear hfz9_1; try clear hfz9_2; try clear hfz9_3; try clear hx210_0; try clear hx221_0; try clear hx232_0; try clear hx244_0; try clear p2; try clear p21; try clear p210; try clear p22; try clear p221; try clear p23; try clear p232; try clear p24; try clear p244; try clear p6; try clear p64; try clear q2; try clear q21; try clear q210; try clear q22; try clear q221; try clear q23; try clear q232; try clear q24; try clear q244
            obtain ⟨kq, x127_86, rfl, HA, HJ86, HO_7, HO_203002, BK202, HB⟩ := hcut
            cases kq with
            | zero => exact absurd HA.out (by simp [withylaw14_SendNumbers.j4])
            | succ kj86 =>
             have H := HA.out
             clear HA
             simp only [withylaw14_SendNumbers.j4] at H
             by_cases c94 : x127_86 = true
             ·subst c94
              have H1 : (some false) = some r := by rw [if_pos rfl] at H; exact H
              clear H
              have H := H1
              clear H1
              exact absurd ((Option.some.inj H).trans HR_.out) (by simp)
             ·replace c94 := Bool.eq_false_iff.mpr c94
              subst c94
              have H1 : (withylaw14_SendNumbers.l1 kj86 l1 (x203002_26.length : Int) x6_2 x7_26 0 x203000_26 x203001_26 x203002_26 x203003_26) = some r := by rw [if_neg (show ¬ (false = true) by decide)] at H; exact H
              clear H
              have H := H1
              clear H1
              have H' := Aside0.mk H
              clear H
              have hcz95_0 : wc.cell? ⟨gb202, 0, none⟩ = some (.int .i64 x203000_26) := (blk_cell BK202.out 0).trans rfl
              have hcz95_1 : wc.cell? ⟨gb202, 1, none⟩ = some (.int .i64 x203001_26) := (blk_cell BK202.out 1).trans rfl
              have hcz95_2 : wc.cell? ⟨gb202, 2, none⟩ = some (u203002) := (blk_cell BK202.out 2).trans rfl
              have hcz95_3 : wc.cell? ⟨gb202, 3, none⟩ = some (.int .i64 x203003_26) := (blk_cell BK202.out 3).trans rfl
              have hfz95_0 := blk_frozen BK202.out 0
              have hfz95_1 := blk_frozen BK202.out 1
              have hfz95_2 := blk_frozen BK202.out 2
              have hfz95_3 := blk_frozen BK202.out 3
              obtain ⟨Ao96, co96, eo96⟩ := Kd.V_slice HO_203002.out
              subst eo96
              go_wp2
              go_loopg [13] kj86 (fun kq v13 w' => ∃ (x13_6 : Int), v13 = .int .i64 x13_6 ∧ Aside0 (withylaw14_SendNumbers.l1 kq l1 (x203002_26.length : Int) x6_2 x7_26 x13_6 x203000_26 x203001_26 x203002_26 x203003_26 = some r) ∧ Aside0 (kq ≤ kj86) ∧ Aside0 (Kd.S k44 44 w' w.heap.size (fun k_ => (w.heap.size ≤ k_)) u7 x7_26) ∧ Aside0 (Kd.V (Kd.slice 5 (Kd.int .u8)) 42 w' w.heap.size (fun k_ => (P0_2_ k_ ∨ w.heap.size ≤ k_) ∧ some k_ ≠ (u7 : Value).ownBlock ∧ k_ ≠ gb202) (.slice Ao96 x203002_26.length co96) x203002_26) ∧ Aside0 (w'.heap[gb202]? = some (.cells #[.int .i64 x203000_26, .int .i64 x203001_26, (.slice Ao96 x203002_26.length co96), .int .i64 x203003_26] 24 (0, 0))) ∧ Aside0 (Below w.heap.size w w'))
              case atStart => exact ⟨(0), (by first | rfl | (simp; done) | (simp [*]; done) | (congr 1; omega) | (simp; omega)), H', ⟨Nat.le_refl _⟩, ⟨by (with_reducible repeat (first | apply Kd.S_alloc | apply Kd.S_drewN | apply Kd.S_drew)); exact HO_7.out⟩, ⟨by (with_reducible repeat (first | apply Kd.V_alloc | apply Kd.V_drewN | apply Kd.V_drew)); exact HO_203002.out⟩, ⟨by (with_reducible repeat (first | refine blk_drewN ?_ _ | refine blk_drew ?_ | refine blk_alloc ?_ _)); exact BK202.out⟩, ⟨by repeat (first | (with_reducible first | exact HB.out | apply below_alloc | apply pw_below_drewN | apply below_drew1 | refine below_set ?_ GE202.out) | exact HB.out)⟩⟩
              case round =>
               clear H'
               try clear c1; try clear c2; try clear p2; try clear q2; try clear hx2; try clear c3; try clear c4; try clear c5; try clear c6; try clear p6; try clear c7; try clear c8; try clear c9; try clear c13; try clear c14; try clear c18; try clear c20; try clear p21; try clear q21; try clear hx21; try clear p22; try clear q22; try clear hx22; try clear p23; try clear q23; try clear hx23; try clear p24; try clear q24; try clear hx24; try clear c25; try clear c25b0; try clear c26; try clear c31; try clear c31b0; try clear c32; try clear c32b0; try clear c33; try clear c33b0; try clear c33b1; try clear c41; try clear c41b0; try clear c49; try clear c49b0; try clear c49b1; try clear c51; try clear c51b0; try clear c51b1; try clear c59; try clear p64; try clear c66; try clear c66b0; try clear c66b1; try clear c74; try clear c88; try clear c88b0; try clear c88b1; try clear c89; try clear c89b0; try clear c89b1; try clear c90; try clear c90b0; try clear c94; try clear hcz11_0; try clear hcz11_1; try clear hcz11_2; try clear hcz11_3; try clear hcz13_0; try clear hcz13_1; try clear hcz13_2; try clear hcz13_3; try clear hcz14_0; try clear hcz14_1; try clear hcz14_2; try clear hcz14_3; try clear hcz16_0; try clear hcz16_1; try clear hcz16_2; try clear hcz16_3; try clear hcz18_0; try clear hcz18_1; try clear hcz18_2; try clear hcz18_3; try clear hcz23_0; try clear hcz23_1; try clear hcz23_2; try clear hcz23_3; try clear hcz30_0; try clear hcz30_1; try clear hcz30_2; try clear hcz30_3; try clear hcz35_0; try clear hcz35_1; try clear hcz35_2; try clear hcz35_3; try clear hcz38_0; try clear hcz38_1; try clear hcz38_2; try clear hcz38_3; try clear hcz43_0; try clear hcz43_1; try clear hcz43_2; try clear hcz43_3; try clear hcz46_0; try clear hcz46_1; try clear hcz46_2; try clear hcz46_3; try clear hcz52_0; try clear hcz52_1; try clear hcz52_2; try clear hcz52_3; try clear hcz60_0; try clear hcz60_1; try clear hcz60_2; try clear hcz60_3; try clear hcz63_0; try clear hcz63_1; try clear hcz63_2; try clear hcz63_3; try clear hcz64_0; try clear hcz64_1; try clear hcz64_2; try clear hcz64_3; try clear hcz67_0; try clear hcz67_1; try clear hcz67_2; try clear hcz67_3; try clear hcz75_0; try clear hcz75_1; try clear hcz75_2; try clear hcz75_3; try clear hcz92_0; try clear hcz92_1; try clear hcz92_2; try clear hcz92_3; try clear hcz95_0; try clear hcz95_1; try clear hcz95_2; try clear hcz95_3; try clear hcz9_0; try clear hcz9_1; try clear hcz9_2; try clear hcz9_3; try clear hfz11_0; try clear hfz11_1; try clear hfz11_2; try clear hfz11_3; try clear hfz13_0; try clear hfz13_1; try clear hfz13_2; try clear hfz13_3; try clear hfz14_0; try clear hfz14_1; try clear hfz14_2; try clear hfz14_3; try clear hfz16_0; try clear hfz16_1; try clear hfz16_2; try clear hfz16_3; try clear hfz18_0; try clear hfz18_1; try clear hfz18_2; try clear hfz18_3; try clear hfz23_0; try clear hfz23_1; try clear hfz23_2; try clear hfz23_3; try clear hfz30_0; try clear hfz30_1; try clear hfz30_2; try clear hfz30_3; try clear hfz35_0; try clear hfz35_1; try clear hfz35_2; try clear hfz35_3; try clear hfz38_0; try clear hfz38_1; try clear hfz38_2; try clear hfz38_3; try clear hfz43_0; try clear hfz43_1; try clear hfz43_2; try clear hfz43_3; try clear hfz46_0; try clear hfz46_1; try clear hfz46_2; try clear hfz46_3; try clear hfz52_0; try clear hfz52_1; try clear hfz52_2; try clear hfz52_3; try clear hfz60_0; try clear hfz60_1; try clear hfz60_2; try clear hfz60_3; try clear hfz63_0; try clear hfz63_1; try clear hfz63_2; try clear hfz63_3; try clear hfz64_0; try clear hfz64_1; try clear hfz64_2; try clear hfz64_3; try clear hfz67_0; try clear hfz67_1; try clear hfz67_2; try clear hfz67_3; try clear hfz75_0; try clear hfz75_1; try clear hfz75_2; try clear hfz75_3; try clear hfz92_0; try clear hfz92_1; try clear hfz92_2; try clear hfz92_3; try clear hfz95_0; try clear hfz95_1; try clear hfz95_2; try clear hfz95_3; try clear hfz9_0; try clear hfz9_1; try clear hfz9_2; try clear hfz9_3; try clear hx210_0; try clear hx221_0; try clear hx232_0; try clear hx244_0; try clear p2; try clear p21; try clear p210; try clear p22; try clear p221; try clear p23; try clear p232; try clear p24; try clear p244; try clear p6; try clear p64; try clear q2; try clear q21; try clear q210; try clear q22; try clear q221; try clear q23; try clear q232; try clear q24; try clear q244
               obtain ⟨x13_6, rfl, HA, HK6, HO_7, HO_203002, BK202, HB⟩ := hrel
               cases gk with
               | zero => exact absurd HA.out (by simp [withylaw14_SendNumbers.l1])
               | succ k6 =>
                have H := HA.out
                clear HA
                simp only [withylaw14_SendNumbers.l1] at H
                by_cases c97 : x13_6 < (x7_26.length : Int)
                ·rw [if_pos c97] at H
                 have c97b0 : decide (x13_6 < (x7_26.length : Int)) = true := decide_eq_true c97
                 clear c97
                 by_cases c98 : x13_6 > 0
                 ·rw [if_pos c98] at H
                  have c98b0 : decide (0 < x13_6) = true := decide_eq_true c98
                  clear c98
                  by_cases c99 : 0 ≤ x13_6
                  ·rw [if_pos c99] at H
                   have c99b0 : decide (0 ≤ x13_6) = true := decide_eq_true c99
                   clear c99
                   obtain ⟨ji100, hji100⟩ : ∃ j_ : Int, (wrap64 (x13_6 - 1)) = j_ := ⟨_, rfl⟩
                   replace H : (if 0 ≤ (ji100) then (if (ji100) < (x7_26.length : Int) then (if ((rd_T44 x7_26 x13_6).f0) = (wrap64 (((rd_T44 x7_26 (ji100)).f0) + 1)) then (if ((rd_T44 x7_26 x13_6).f0) < x203000_26 then (some false) else (if ((rd_T44 x7_26 x13_6).f0) ≥ (wrap64 (x203000_26 + 16)) then (some false) else (withylaw14_SendNumbers.l1 k6 l1 (x203002_26.length : Int) x6_2 x7_26 (wrap64 (x13_6 + 1)) x203000_26 x203001_26 x203002_26 x203003_26))) else (some false)) else (none)) else (none)) = some r := by first | (rw [hji100] at H; exact H) | (simp only [hji100] at H ⊢; exact H)
                   have hji100w : (IntKind.i64.wrap (x13_6 - 1)) = ji100 := (i64_w _).trans hji100
                   by_cases c101 : 0 ≤ (ji100)
                   ·rw [if_pos c101] at H
                    have c101b0 : decide (0 ≤ (ji100)) = true := decide_eq_true c101
                    clear c101
                    by_cases c102 : (ji100) < (x7_26.length : Int)
                    ·rw [if_pos c102] at H
                     have c102b0 : decide ((ji100) < (x7_26.length : Int)) = true := decide_eq_true c102
                     clear c102
                     by_cases c103 : ((rd_T44 x7_26 x13_6).f0) = (wrap64 (((rd_T44 x7_26 (ji100)).f0) + 1))
                     ·rw [if_pos c103] at H
                      have c103b0 : (((rd_T44 x7_26 x13_6).f0) == (wrap64 (((rd_T44 x7_26 (ji100)).f0) + 1))) = true := beq_iff_eq.mpr c103
                      have c103b1 : (((rd_T44 x7_26 x13_6).f0) != (wrap64 (((rd_T44 x7_26 (ji100)).f0) + 1))) = false := bne_eq_false_iff_eq.mpr c103
                      clear c103
                      by_cases c104 : ((rd_T44 x7_26 x13_6).f0) < x203000_26
                      ·rw [if_pos c104] at H
                       have c104b0 : decide (((rd_T44 x7_26 x13_6).f0) < x203000_26) = true := decide_eq_true c104
                       clear c104
                       exact absurd ((Option.some.inj H).trans HR_.out) (by simp)
                      ·rw [if_neg c104] at H
                       have c104b0 : decide (((rd_T44 x7_26 x13_6).f0) < x203000_26) = false := decide_eq_false c104
                       clear c104
                       by_cases c105 : ((rd_T44 x7_26 x13_6).f0) ≥ (wrap64 (x203000_26 + 16))
                       ·rw [if_pos c105] at H
                        have c105b0 : decide ((wrap64 (x203000_26 + 16)) ≤ ((rd_T44 x7_26 x13_6).f0)) = true := decide_eq_true c105
                        clear c105
                        exact absurd ((Option.some.inj H).trans HR_.out) (by simp)
                       ·rw [if_neg c105] at H
                        have c105b0 : decide ((wrap64 (x203000_26 + 16)) ≤ ((rd_T44 x7_26 x13_6).f0)) = false := decide_eq_false c105
                        clear c105
                        have H' := Aside0.mk H
                        clear H
                        obtain ⟨Ao106, co106, eo106⟩ := Kd.S_slice HO_7.out
                        subst eo106
                        try go_wp2
                        have n0_ := Aside0.mk (Kd.S_drew HO_7.out)
                        have n1_ := Aside0.mk (Kd.V_drew HO_203002.out)
                        have n2_ := Aside0.mk (blk_drew BK202.out)
                        have n3_ := Aside0.mk (below_drew1 HB.out)
                        clear HO_7
                        clear HO_203002
                        clear BK202
                        clear HB
                        have HO_7 := n0_
                        have HO_203002 := n1_
                        have BK202 := n2_
                        have HB := n3_
                        clear n0_ n1_ n2_ n3_
                        have p252 : 0 ≤ (x13_6 : Int) := of_decide_eq_true (by first | (with_reducible assumption) | assumption)
                        have q252 : x13_6 < (x7_26.length : Int) := of_decide_eq_true (by first | (with_reducible assumption) | assumption)
                        obtain ⟨ad252, A252_1, c252_1, e252, hx252_0, hx252_1, hl252_1, hi252_1⟩ := at_T44 (Kd.S_reads' HO_7.out).2.2 x13_6 p252 q252
                        cases e252
                        obtain ⟨ce252, hce252, hMe252, hcc252⟩ := Kd.S_get HO_7.out z44 x13_6 p252 (by first | exact q252 | exact of_decide_eq_true (by first | (with_reducible assumption) | assumption) | (have e_ := (Kd.S_reads' HO_7.out).1; omega))
                        obtain ⟨ve252_1, rfl, ge252_1⟩ := k44_openM hMe252
                        have hv252_1 := hcc252 1 _ rfl
                        rw [add_field _ _ 1 (by omega)] at hv252_1
                        replace hv252_1 := Option.some.inj (hv252_1.symm.trans hx252_1)
                        rw [hv252_1] at ge252_1
                        have HL252_1 := Aside0.mk (show Kd.R (Kd.int .u8) 5 _ _ _ _ ((rd_T44 x7_26 x13_6).f1) from ge252_1)
                        clear hv252_1 ge252_1
                        clear hcc252 hce252
                        have HR252_1 := Aside0.mk hi252_1
                        have HC252_1 := Aside0.mk hl252_1
                        clear hi252_1 hl252_1
                        replace p252 := eq_true p252
                        replace q252 := eq_true q252
                        have p253 : 0 ≤ ((ji100) : Int) := of_decide_eq_true (by first | (with_reducible assumption) | assumption)
                        have q253 : (ji100) < (x7_26.length : Int) := of_decide_eq_true (by first | (with_reducible assumption) | assumption)
                        obtain ⟨ad253, A253_1, c253_1, e253, hx253_0, hx253_1, hl253_1, hi253_1⟩ := at_T44 (Kd.S_reads' HO_7.out).2.2 (ji100) p253 q253
                        obtain rfl : ad252 = ad253 := (by injection e253)
                        obtain ⟨ce253, hce253, hMe253, hcc253⟩ := Kd.S_get HO_7.out z44 (ji100) p253 (by first | exact q253 | exact of_decide_eq_true (by first | (with_reducible assumption) | assumption) | (have e_ := (Kd.S_reads' HO_7.out).1; omega))
                        obtain ⟨ve253_1, rfl, ge253_1⟩ := k44_openM hMe253
                        have hv253_1 := hcc253 1 _ rfl
                        rw [add_field _ _ 1 (by omega)] at hv253_1
                        replace hv253_1 := Option.some.inj (hv253_1.symm.trans hx253_1)
                        rw [hv253_1] at ge253_1
                        have HL253_1 := Aside0.mk (show Kd.R (Kd.int .u8) 5 _ _ _ _ ((rd_T44 x7_26 (ji100)).f1) from ge253_1)
                        clear hv253_1 ge253_1
                        clear hcc253 hce253
                        have HR253_1 := Aside0.mk hi253_1
                        have HC253_1 := Aside0.mk hl253_1
                        clear hi253_1 hl253_1
                        replace p253 := eq_true p253
                        replace q253 := eq_true q253
                        have p254 : 0 ≤ (x13_6 : Int) := of_decide_eq_true (by first | (with_reducible assumption) | assumption)
                        have q254 : x13_6 < (x7_26.length : Int) := of_decide_eq_true (by first | (with_reducible assumption) | assumption)
                        obtain ⟨ad254, A254_1, c254_1, e254, hx254_0, hx254_1, hl254_1, hi254_1⟩ := at_T44 (Kd.S_reads' HO_7.out).2.2 x13_6 p254 q254
                        obtain rfl : ad252 = ad254 := (by injection e254)
                        obtain ⟨ce254, hce254, hMe254, hcc254⟩ := Kd.S_get HO_7.out z44 x13_6 p254 (by first | exact q254 | exact of_decide_eq_true (by first | (with_reducible assumption) | assumption) | (have e_ := (Kd.S_reads' HO_7.out).1; omega))
                        obtain ⟨ve254_1, rfl, ge254_1⟩ := k44_openM hMe254
                        have hv254_1 := hcc254 1 _ rfl
                        rw [add_field _ _ 1 (by omega)] at hv254_1
                        replace hv254_1 := Option.some.inj (hv254_1.symm.trans hx254_1)
                        rw [hv254_1] at ge254_1
                        have HL254_1 := Aside0.mk (show Kd.R (Kd.int .u8) 5 _ _ _ _ ((rd_T44 x7_26 x13_6).f1) from ge254_1)
                        clear hv254_1 ge254_1
                        clear hcc254 hce254
                        have HR254_1 := Aside0.mk hi254_1
                        have HC254_1 := Aside0.mk hl254_1
                        clear hi254_1 hl254_1
                        replace p254 := eq_true p254
                        replace q254 := eq_true q254
                        have ea_ := Option.some.inj (hx252_1.symm.trans hx254_1)
                        injection ea_ with ea_ en_ ec_
                        subst ea_
                        subst ec_
                        clear en_
                        have p255 : 0 ≤ (x13_6 : Int) := of_decide_eq_true (by first | (with_reducible assumption) | assumption)
                        have q255 : x13_6 < (x7_26.length : Int) := of_decide_eq_true (by first | (with_reducible assumption) | assumption)
                        obtain ⟨ad255, A255_1, c255_1, e255, hx255_0, hx255_1, hl255_1, hi255_1⟩ := at_T44 (Kd.S_reads' HO_7.out).2.2 x13_6 p255 q255
                        obtain rfl : ad252 = ad255 := (by injection e255)
                        obtain ⟨ce255, hce255, hMe255, hcc255⟩ := Kd.S_get HO_7.out z44 x13_6 p255 (by first | exact q255 | exact of_decide_eq_true (by first | (with_reducible assumption) | assumption) | (have e_ := (Kd.S_reads' HO_7.out).1; omega))
                        obtain ⟨ve255_1, rfl, ge255_1⟩ := k44_openM hMe255
                        have hv255_1 := hcc255 1 _ rfl
                        rw [add_field _ _ 1 (by omega)] at hv255_1
                        replace hv255_1 := Option.some.inj (hv255_1.symm.trans hx255_1)
                        rw [hv255_1] at ge255_1
                        have HL255_1 := Aside0.mk (show Kd.R (Kd.int .u8) 5 _ _ _ _ ((rd_T44 x7_26 x13_6).f1) from ge255_1)
                        clear hv255_1 ge255_1
                        clear hcc255 hce255
                        have HR255_1 := Aside0.mk hi255_1
                        have HC255_1 := Aside0.mk hl255_1
                        clear hi255_1 hl255_1
                        replace p255 := eq_true p255
                        replace q255 := eq_true q255
                        have ea_ := Option.some.inj (hx252_1.symm.trans hx255_1)
                        injection ea_ with ea_ en_ ec_
                        subst ea_
                        subst ec_
                        clear en_
                        refine start_ (n := 38) (S := fun w' => w'.cell? ⟨gb202, 0, none⟩ = some (.int .i64 x203000_26) ∧ w'.cell? ⟨gb202, 1, none⟩ = some (.int .i64 x203001_26) ∧ w'.cell? ⟨gb202, 2, none⟩ = some (.slice Ao96 x203002_26.length co96) ∧ w'.cell? ⟨gb202, 3, none⟩ = some (.int .i64 x203003_26) ∧ w'.cell? (ad252.add ((x13_6).toNat * 2)) = some (.int .i64 ((rd_T44 x7_26 x13_6).f0)) ∧ w'.cell? ⟨(ad252.add ((x13_6).toNat * 2)).block, (ad252.add ((x13_6).toNat * 2)).off + 1, none⟩ = some (.slice A252_1 ((rd_T44 x7_26 x13_6).f1).length c252_1) ∧ w'.cell? (ad252.add (((ji100)).toNat * 2)) = some (.int .i64 ((rd_T44 x7_26 (ji100)).f0)) ∧ w'.cell? ⟨(ad252.add (((ji100)).toNat * 2)).block, (ad252.add (((ji100)).toNat * 2)).off + 1, none⟩ = some (.slice A253_1 ((rd_T44 x7_26 (ji100)).f1).length c253_1) ∧ w'.cell? (ad252.add ((x13_6).toNat * 2)) = some (.int .i64 ((rd_T44 x7_26 x13_6).f0)) ∧ w'.cell? ⟨(ad252.add ((x13_6).toNat * 2)).block, (ad252.add ((x13_6).toNat * 2)).off + 1, none⟩ = some (.slice A252_1 ((rd_T44 x7_26 x13_6).f1).length c252_1) ∧ w'.cell? (ad252.add ((x13_6).toNat * 2)) = some (.int .i64 ((rd_T44 x7_26 x13_6).f0)) ∧ w'.cell? ⟨(ad252.add ((x13_6).toNat * 2)).block, (ad252.add ((x13_6).toNat * 2)).off + 1, none⟩ = some (.slice A252_1 ((rd_T44 x7_26 x13_6).f1).length c252_1)) (ds := []) #[false, false, false, false, false, false, false, false, false, false, false, false, false, false, false, false, false, false, false, false, false, false, false, false, false, false, false, false, false, false, false, false, false, false, false, false, false, false] (by kernel_rfl) rfl rfl ⟨(blk_cell BK202.out 0).trans rfl, (blk_cell BK202.out 1).trans rfl, (blk_cell BK202.out 2).trans rfl, (blk_cell BK202.out 3).trans rfl, hx252_0, hx252_1, hx253_0, hx253_1, hx254_0, hx254_1, hx255_0, hx255_1⟩ (fun hHeld => ?_); refine with_tabW withylaw14_SendNumbers.tab29 withylaw14_SendNumbers.bits29 (fun HT_ HW_ => ?_)
                        generalize wr.drew = w107 at HO_7 HO_203002 BK202 HB HL252_1 HL253_1 HL254_1 HL255_1 HR252_1 HR253_1 HR254_1 HR255_1 hx252_0 hx252_1 hx253_0 hx253_1 hx254_0 hx254_1 hx255_0 hx255_1 hHeld ⊢
                        refine pure_ (i := 0) (N := some 137) (v := ?_) (a' := ?_) #[true, false, false, false, false, false, false, false, false, false, false, false, false, false, false, false, false, false, false, false, false, false, false, false, false, false, false, false, false, false, false, false, false, false, false, false, false, false] rfl rfl (any_of HT_.out (by kernel_rfl)) (fun _ _ _ h => h) (Or.inl ⟨by rfl, ?_⟩) ?_ ?_
                        rotate_left
                        ·intro w'
                         go_simp
                         with_reducible rfl
                        rotate_left
                        ·simp only [Act.put, List.setIfInBounds_toArray, List.set_cons_zero, List.set_cons_succ, i64_w, i32_w]
                         rfl
                        refine pure_ (i := 1) (N := some 138) (v := ?_) (a' := ?_) #[true, true, false, false, false, false, false, false, false, false, false, false, false, false, false, false, false, false, false, false, false, false, false, false, false, false, false, false, false, false, false, false, false, false, false, false, false, false] rfl rfl (any_of HT_.out (by kernel_rfl)) (fun _ _ _ h => h) (Or.inl ⟨by rfl, ?_⟩) ?_ ?_
                        rotate_left
                        ·intro w'
                         go_simp
                         with_reducible rfl
                        rotate_left
                        ·simp only [Act.put, List.setIfInBounds_toArray, List.set_cons_zero, List.set_cons_succ, i64_w, i32_w]
                         rfl
                        refine pure_ (i := 2) (N := some 139) (v := ?_) (a' := ?_) #[true, true, true, false, false, false, false, false, false, false, false, false, false, false, false, false, false, false, false, false, false, false, false, false, false, false, false, false, false, false, false, false, false, false, false, false, false, false] rfl rfl (any_of HT_.out (by kernel_rfl)) (fun _ _ _ h => h) (Or.inl ⟨by rfl, ?_⟩) ?_ ?_
                        rotate_left
                        ·intro w'
                         go_simp
                         with_reducible rfl
                        rotate_left
                        ·simp only [Act.put, List.setIfInBounds_toArray, List.set_cons_zero, List.set_cons_succ, i64_w, i32_w]
                         rfl
                        refine pure_ (i := 3) (N := some 140) (v := ?_) (a' := ?_) #[true, true, true, true, false, false, false, false, false, false, false, false, false, false, false, false, false, false, false, false, false, false, false, false, false, false, false, false, false, false, false, false, false, false, false, false, false, false] rfl rfl (any_of HT_.out (by kernel_rfl)) (fun _ _ _ h => h) (Or.inl ⟨by rfl, ?_⟩) ?_ ?_
                        rotate_left
                        ·intro w'
                         go_simp
                         with_reducible rfl
                        rotate_left
                        ·simp only [Act.put, List.setIfInBounds_toArray, List.set_cons_zero, List.set_cons_succ, i64_w, i32_w]
                         rfl
                        refine pure_ (i := 4) (N := some 141) (v := ?_) (a' := ?_) #[true, true, true, true, true, false, false, false, false, false, false, false, false, false, false, false, false, false, false, false, false, false, false, false, false, false, false, false, false, false, false, false, false, false, false, false, false, false] rfl rfl (any_of HT_.out (by kernel_rfl)) (fun _ _ _ h => h) (Or.inl ⟨by rfl, ?_⟩) ?_ ?_
                        rotate_left
                        ·intro w'
                         go_simp
                         with_reducible rfl
                        rotate_left
                        ·simp only [Act.put, List.setIfInBounds_toArray, List.set_cons_zero, List.set_cons_succ, i64_w, i32_w]
                         rfl
                        refine pure_ (i := 5) (N := some 142) (v := ?_) (a' := ?_) #[true, true, true, true, true, true, false, false, false, false, false, false, false, false, false, false, false, false, false, false, false, false, false, false, false, false, false, false, false, false, false, false, false, false, false, false, false, false] rfl rfl (any_of HT_.out (by kernel_rfl)) (fun _ _ _ h => h) (Or.inl ⟨by rfl, ?_⟩) ?_ ?_
                        rotate_left
                        ·intro w'
                         go_simp
                         with_reducible rfl
                        rotate_left
                        ·simp only [Act.put, List.setIfInBounds_toArray, List.set_cons_zero, List.set_cons_succ, i64_w, i32_w]
                         rfl
                        refine pure_ (i := 6) (N := some 143) (v := ?_) (a' := ?_) #[true, true, true, true, true, true, true, false, false, false, false, false, false, false, false, false, false, false, false, false, false, false, false, false, false, false, false, false, false, false, false, false, false, false, false, false, false, false] rfl rfl (any_of HT_.out (by kernel_rfl)) (fun _ _ _ h => h) (Or.inl ⟨by rfl, ?_⟩) ?_ ?_
                        rotate_left
                        ·intro w'
                         go_simp
                         with_reducible rfl
                        rotate_left
                        ·simp only [Act.put, List.setIfInBounds_toArray, List.set_cons_zero, List.set_cons_succ, i64_w, i32_w]
                         rfl
                        refine pure_ (i := 8) (N := some 145) (v := ?_) (a' := ?_) #[true, true, true, true, true, true, true, false, true, false, false, false, false, false, false, false, false, false, false, false, false, false, false, false, false, false, false, false, false, false, false, false, false, false, false, false, false, false] rfl rfl (any_of HT_.out (by kernel_rfl)) (fun _ _ _ h => h) (Or.inl ⟨by rfl, ?_⟩) ?_ ?_
                        rotate_left
                        ·intro w'
                         go_simp
                         with_reducible rfl
                        rotate_left
                        ·simp only [Act.put, List.setIfInBounds_toArray, List.set_cons_zero, List.set_cons_succ, i64_w, i32_w]
                         rfl
                        refine pure_ (i := 9) (N := some 146) (v := ?_) (a' := ?_) #[true, true, true, true, true, true, true, false, true, true, false, false, false, false, false, false, false, false, false, false, false, false, false, false, false, false, false, false, false, false, false, false, false, false, false, false, false, false] rfl rfl (any_of HT_.out (by kernel_rfl)) (fun _ _ _ h => h) (Or.inl ⟨by rfl, ?_⟩) ?_ ?_
                        rotate_left
                        ·intro w'
                         go_simp
                         with_reducible rfl
                        rotate_left
                        ·simp only [Act.put, List.setIfInBounds_toArray, List.set_cons_zero, List.set_cons_succ, i64_w, i32_w]
                         rfl
                        refine pure_ (i := 10) (N := some 147) (v := ?_) (a' := ?_) #[true, true, true, true, true, true, true, false, true, true, true, false, false, false, false, false, false, false, false, false, false, false, false, false, false, false, false, false, false, false, false, false, false, false, false, false, false, false] rfl rfl (any_of HT_.out (by kernel_rfl)) (fun _ _ _ h => h) (Or.inl ⟨by rfl, ?_⟩) ?_ ?_
                        rotate_left
                        ·intro w'
                         go_simp
                         with_reducible rfl
                        rotate_left
                        ·simp only [Act.put, List.setIfInBounds_toArray, List.set_cons_zero, List.set_cons_succ, i64_w, i32_w]
                         rfl
                        refine pure_ (i := 11) (N := some 148) (v := ?_) (a' := ?_) #[true, true, true, true, true, true, true, false, true, true, true, true, false, false, false, false, false, false, false, false, false, false, false, false, false, false, false, false, false, false, false, false, false, false, false, false, false, false] rfl rfl (any_of HT_.out (by kernel_rfl)) (fun _ _ _ h => h) (Or.inl ⟨by rfl, ?_⟩) ?_ ?_
                        rotate_left
                        ·intro w'
                         go_simp
                         with_reducible rfl
                        rotate_left
                        ·simp only [Act.put, List.setIfInBounds_toArray, List.set_cons_zero, List.set_cons_succ, i64_w, i32_w]
                         rfl
                        refine pure_ (i := 12) (N := some 149) (v := ?_) (a' := ?_) #[true, true, true, true, true, true, true, false, true, true, true, true, true, false, false, false, false, false, false, false, false, false, false, false, false, false, false, false, false, false, false, false, false, false, false, false, false, false] rfl rfl (any_of HT_.out (by kernel_rfl)) (fun _ _ _ h => h) (Or.inl ⟨by rfl, ?_⟩) ?_ ?_
                        rotate_left
                        ·intro w'
                         go_simp
                         with_reducible rfl
                        rotate_left
                        ·simp only [Act.put, List.setIfInBounds_toArray, List.set_cons_zero, List.set_cons_succ, i64_w, i32_w]
                         rfl
                        refine take_ (i := 7) (N := some 144) (v := ?_) (a' := ?_) #[true, true, true, true, true, true, true, true, true, true, true, true, true, false, false, false, false, false, false, false, false, false, false, false, false, false, false, false, false, false, false, false, false, false, false, false, false, false] rfl rfl (take_ofW HT_.out HW_.out (by kernel_rfl)) (fun _ _ _ h => h) (Or.inl ⟨by rfl, ?_⟩) hHeld ?_ ?_
                        rotate_left
                        ·rintro w' ⟨s0, s1, s2, s3, s4, s5, s6, s7, s8, s9, s10, s11⟩
                         go_simp
                         with_reducible rfl
                        rotate_left
                        ·simp only [Act.put, List.setIfInBounds_toArray, List.set_cons_zero, List.set_cons_succ, i64_w, i32_w]
                         rfl
                        refine take_ (i := 13) (N := some 150) (v := ?_) (a' := ?_) #[true, true, true, true, true, true, true, true, true, true, true, true, true, true, false, false, false, false, false, false, false, false, false, false, false, false, false, false, false, false, false, false, false, false, false, false, false, false] rfl rfl (take_ofW HT_.out HW_.out (by kernel_rfl)) (fun _ _ _ h => h) (Or.inl ⟨by rfl, ?_⟩) hHeld ?_ ?_
                        rotate_left
                        ·rintro w' ⟨s0, s1, s2, s3, s4, s5, s6, s7, s8, s9, s10, s11⟩
                         go_simp
                         with_reducible rfl
                        rotate_left
                        ·simp only [Act.put, List.setIfInBounds_toArray, List.set_cons_zero, List.set_cons_succ, i64_w, i32_w]
                         rfl
                        refine pure_ (i := 14) (N := some 151) (v := ?_) (a' := ?_) #[true, true, true, true, true, true, true, true, true, true, true, true, true, true, true, false, false, false, false, false, false, false, false, false, false, false, false, false, false, false, false, false, false, false, false, false, false, false] rfl rfl (any_of HT_.out (by kernel_rfl)) (fun _ _ _ h => h) (Or.inl ⟨by rfl, ?_⟩) ?_ ?_
                        rotate_left
                        ·intro w'
                         go_simp
                         with_reducible rfl
                        rotate_left
                        ·simp only [Act.put, List.setIfInBounds_toArray, List.set_cons_zero, List.set_cons_succ, i64_w, i32_w]
                         rfl
                        refine pure_ (i := 15) (N := some 152) (v := ?_) (a' := ?_) #[true, true, true, true, true, true, true, true, true, true, true, true, true, true, true, true, false, false, false, false, false, false, false, false, false, false, false, false, false, false, false, false, false, false, false, false, false, false] rfl rfl (any_of HT_.out (by kernel_rfl)) (fun _ _ _ h => h) (Or.inl ⟨by rfl, ?_⟩) ?_ ?_
                        rotate_left
                        ·intro w'
                         go_simp
                         with_reducible rfl
                        rotate_left
                        ·simp only [Act.put, List.setIfInBounds_toArray, List.set_cons_zero, List.set_cons_succ, i64_w, i32_w]
                         rfl
                        refine pure_ (i := 16) (N := some 153) (v := ?_) (a' := ?_) #[true, true, true, true, true, true, true, true, true, true, true, true, true, true, true, true, true, false, false, false, false, false, false, false, false, false, false, false, false, false, false, false, false, false, false, false, false, false] rfl rfl (any_of HT_.out (by kernel_rfl)) (fun _ _ _ h => h) (Or.inl ⟨by rfl, ?_⟩) ?_ ?_
                        rotate_left
                        ·intro w'
                         go_simp
                         with_reducible rfl
                        rotate_left
                        ·simp only [Act.put, List.setIfInBounds_toArray, List.set_cons_zero, List.set_cons_succ, i64_w, i32_w]
                         rfl
                        refine pure_ (i := 17) (N := some 154) (v := ?_) (a' := ?_) #[true, true, true, true, true, true, true, true, true, true, true, true, true, true, true, true, true, true, false, false, false, false, false, false, false, false, false, false, false, false, false, false, false, false, false, false, false, false] rfl rfl (any_of HT_.out (by kernel_rfl)) (fun _ _ _ h => h) (Or.inl ⟨by rfl, ?_⟩) ?_ ?_
                        rotate_left
                        ·intro w'
                         go_simp
                         with_reducible rfl
                        rotate_left
                        ·simp only [Act.put, List.setIfInBounds_toArray, List.set_cons_zero, List.set_cons_succ, i64_w, i32_w]
                         rfl
                        refine pure_ (i := 18) (N := some 155) (v := ?_) (a' := ?_) #[true, true, true, true, true, true, true, true, true, true, true, true, true, true, true, true, true, true, true, false, false, false, false, false, false, false, false, false, false, false, false, false, false, false, false, false, false, false] rfl rfl (any_of HT_.out (by kernel_rfl)) (fun _ _ _ h => h) (Or.inl ⟨by rfl, ?_⟩) ?_ ?_
                        rotate_left
                        ·intro w'
                         go_simp
                         with_reducible rfl
                        rotate_left
                        ·simp only [Act.put, List.setIfInBounds_toArray, List.set_cons_zero, List.set_cons_succ, i64_w, i32_w]
                         rfl
                        refine pure_ (i := 19) (N := some 156) (v := ?_) (a' := ?_) #[true, true, true, true, true, true, true, true, true, true, true, true, true, true, true, true, true, true, true, true, false, false, false, false, false, false, false, false, false, false, false, false, false, false, false, false, false, false] rfl rfl (any_of HT_.out (by kernel_rfl)) (fun _ _ _ h => h) (Or.inl ⟨by rfl, ?_⟩) ?_ ?_
                        rotate_left
                        ·intro w'
                         go_simp
                         with_reducible rfl
                        rotate_left
                        ·simp only [Act.put, List.setIfInBounds_toArray, List.set_cons_zero, List.set_cons_succ, i64_w, i32_w]
                         rfl
                        refine pure_ (i := 20) (N := some 157) (v := ?_) (a' := ?_) #[true, true, true, true, true, true, true, true, true, true, true, true, true, true, true, true, true, true, true, true, true, false, false, false, false, false, false, false, false, false, false, false, false, false, false, false, false, false] rfl rfl (any_of HT_.out (by kernel_rfl)) (fun _ _ _ h => h) (Or.inl ⟨by rfl, ?_⟩) ?_ ?_
                        rotate_left
                        ·intro w'
                         go_simp
                         with_reducible rfl
                        rotate_left
                        ·simp only [Act.put, List.setIfInBounds_toArray, List.set_cons_zero, List.set_cons_succ, i64_w, i32_w]
                         rfl
                        refine pure_ (i := 21) (N := some 158) (v := ?_) (a' := ?_) #[true, true, true, true, true, true, true, true, true, true, true, true, true, true, true, true, true, true, true, true, true, true, false, false, false, false, false, false, false, false, false, false, false, false, false, false, false, false] rfl rfl (any_of HT_.out (by kernel_rfl)) (fun _ _ _ h => h) (Or.inl ⟨by rfl, ?_⟩) ?_ ?_
                        rotate_left
                        ·intro w'
                         go_simp
                         with_reducible rfl
                        rotate_left
                        ·simp only [Act.put, List.setIfInBounds_toArray, List.set_cons_zero, List.set_cons_succ, i64_w, i32_w]
                         rfl
                        refine pure_ (i := 23) (N := some 160) (v := ?_) (a' := ?_) #[true, true, true, true, true, true, true, true, true, true, true, true, true, true, true, true, true, true, true, true, true, true, false, true, false, false, false, false, false, false, false, false, false, false, false, false, false, false] rfl rfl (any_of HT_.out (by kernel_rfl)) (fun _ _ _ h => h) (Or.inl ⟨by rfl, ?_⟩) ?_ ?_
                        rotate_left
                        ·intro w'
                         go_simp
                         with_reducible rfl
                        rotate_left
                        ·simp only [Act.put, List.setIfInBounds_toArray, List.set_cons_zero, List.set_cons_succ, i64_w, i32_w]
                         rfl
                        refine take_ (i := 22) (N := some 159) (v := ?_) (a' := ?_) #[true, true, true, true, true, true, true, true, true, true, true, true, true, true, true, true, true, true, true, true, true, true, true, true, false, false, false, false, false, false, false, false, false, false, false, false, false, false] rfl rfl (take_ofW HT_.out HW_.out (by kernel_rfl)) (fun _ _ _ h => h) (Or.inl ⟨by rfl, ?_⟩) hHeld ?_ ?_
                        rotate_left
                        ·rintro w' ⟨s0, s1, s2, s3, s4, s5, s6, s7, s8, s9, s10, s11⟩
                         go_simp
                         with_reducible rfl
                        rotate_left
                        ·simp only [Act.put, List.setIfInBounds_toArray, List.set_cons_zero, List.set_cons_succ, i64_w, i32_w]
                         rfl
                        refine take_ (i := 24) (N := some 161) (v := ?_) (a' := ?_) #[true, true, true, true, true, true, true, true, true, true, true, true, true, true, true, true, true, true, true, true, true, true, true, true, true, false, false, false, false, false, false, false, false, false, false, false, false, false] rfl rfl (take_ofW HT_.out HW_.out (by kernel_rfl)) (fun _ _ _ h => h) (Or.inl ⟨by rfl, ?_⟩) hHeld ?_ ?_
                        rotate_left
                        ·rintro w' ⟨s0, s1, s2, s3, s4, s5, s6, s7, s8, s9, s10, s11⟩
                         go_simp
                         with_reducible rfl
                        rotate_left
                        ·simp only [Act.put, List.setIfInBounds_toArray, List.set_cons_zero, List.set_cons_succ, i64_w, i32_w]
                         rfl
                        refine pure_ (i := 25) (N := some 162) (v := ?_) (a' := ?_) #[true, true, true, true, true, true, true, true, true, true, true, true, true, true, true, true, true, true, true, true, true, true, true, true, true, true, false, false, false, false, false, false, false, false, false, false, false, false] rfl rfl (any_of HT_.out (by kernel_rfl)) (fun _ _ _ h => h) (Or.inl ⟨by rfl, ?_⟩) ?_ ?_
                        rotate_left
                        ·intro w'
                         go_simp
                         with_reducible rfl
                        rotate_left
                        ·simp only [Act.put, List.setIfInBounds_toArray, List.set_cons_zero, List.set_cons_succ, i64_w, i32_w]
                         rfl
                        refine pure_ (i := 26) (N := some 163) (v := ?_) (a' := ?_) #[true, true, true, true, true, true, true, true, true, true, true, true, true, true, true, true, true, true, true, true, true, true, true, true, true, true, true, false, false, false, false, false, false, false, false, false, false, false] rfl rfl (any_of HT_.out (by kernel_rfl)) (fun _ _ _ h => h) (Or.inl ⟨by rfl, ?_⟩) ?_ ?_
                        rotate_left
                        ·intro w'
                         go_simp
                         with_reducible rfl
                        rotate_left
                        ·simp only [Act.put, List.setIfInBounds_toArray, List.set_cons_zero, List.set_cons_succ, i64_w, i32_w]
                         rfl
                        refine pure_ (i := 27) (N := some 164) (v := ?_) (a' := ?_) #[true, true, true, true, true, true, true, true, true, true, true, true, true, true, true, true, true, true, true, true, true, true, true, true, true, true, true, true, false, false, false, false, false, false, false, false, false, false] rfl rfl (any_of HT_.out (by kernel_rfl)) (fun _ _ _ h => h) (Or.inl ⟨by rfl, ?_⟩) ?_ ?_
                        rotate_left
                        ·intro w'
                         go_simp
                         with_reducible rfl
                        rotate_left
                        ·simp only [Act.put, List.setIfInBounds_toArray, List.set_cons_zero, List.set_cons_succ, i64_w, i32_w]
                         rfl
                        refine pure_ (i := 28) (N := some 165) (v := ?_) (a' := ?_) #[true, true, true, true, true, true, true, true, true, true, true, true, true, true, true, true, true, true, true, true, true, true, true, true, true, true, true, true, true, false, false, false, false, false, false, false, false, false] rfl rfl (any_of HT_.out (by kernel_rfl)) (fun _ _ _ h => h) (Or.inl ⟨by rfl, ?_⟩) ?_ ?_
                        rotate_left
                        ·intro w'
                         go_simp
                         with_reducible rfl
                        rotate_left
                        ·simp only [Act.put, List.setIfInBounds_toArray, List.set_cons_zero, List.set_cons_succ, i64_w, i32_w]
                         rfl
                        refine pure_ (i := 29) (N := some 166) (v := ?_) (a' := ?_) #[true, true, true, true, true, true, true, true, true, true, true, true, true, true, true, true, true, true, true, true, true, true, true, true, true, true, true, true, true, true, false, false, false, false, false, false, false, false] rfl rfl (any_of HT_.out (by kernel_rfl)) (fun _ _ _ h => h) (Or.inl ⟨by rfl, ?_⟩) ?_ ?_
                        rotate_left
                        ·intro w'
                         go_simp
                         with_reducible rfl
                        rotate_left
                        ·simp only [Act.put, List.setIfInBounds_toArray, List.set_cons_zero, List.set_cons_succ, i64_w, i32_w]
                         rfl
                        refine pure_ (i := 30) (N := some 167) (v := ?_) (a' := ?_) #[true, true, true, true, true, true, true, true, true, true, true, true, true, true, true, true, true, true, true, true, true, true, true, true, true, true, true, true, true, true, true, false, false, false, false, false, false, false] rfl rfl (any_of HT_.out (by kernel_rfl)) (fun _ _ _ h => h) (Or.inl ⟨by rfl, ?_⟩) ?_ ?_
                        rotate_left
                        ·intro w'
                         go_simp
                         with_reducible rfl
                        rotate_left
                        ·simp only [Act.put, List.setIfInBounds_toArray, List.set_cons_zero, List.set_cons_succ, i64_w, i32_w]
                         rfl
                        refine pure_ (i := 31) (N := some 168) (v := ?_) (a' := ?_) #[true, true, true, true, true, true, true, true, true, true, true, true, true, true, true, true, true, true, true, true, true, true, true, true, true, true, true, true, true, true, true, true, false, false, false, false, false, false] rfl rfl (any_of HT_.out (by kernel_rfl)) (fun _ _ _ h => h) (Or.inl ⟨by rfl, ?_⟩) ?_ ?_
                        rotate_left
                        ·intro w'
                         go_simp
                         with_reducible rfl
                        rotate_left
                        ·simp only [Act.put, List.setIfInBounds_toArray, List.set_cons_zero, List.set_cons_succ, i64_w, i32_w]
                         rfl
                        refine pure_ (i := 33) (N := some 170) (v := ?_) (a' := ?_) #[true, true, true, true, true, true, true, true, true, true, true, true, true, true, true, true, true, true, true, true, true, true, true, true, true, true, true, true, true, true, true, true, false, true, false, false, false, false] rfl rfl (any_of HT_.out (by kernel_rfl)) (fun _ _ _ h => h) (Or.inl ⟨by rfl, ?_⟩) ?_ ?_
                        rotate_left
                        ·intro w'
                         go_simp
                         with_reducible rfl
                        rotate_left
                        ·simp only [Act.put, List.setIfInBounds_toArray, List.set_cons_zero, List.set_cons_succ, i64_w, i32_w]
                         rfl
                        refine take_ (i := 32) (N := some 169) (v := ?_) (a' := ?_) #[true, true, true, true, true, true, true, true, true, true, true, true, true, true, true, true, true, true, true, true, true, true, true, true, true, true, true, true, true, true, true, true, true, true, false, false, false, false] rfl rfl (take_ofW HT_.out HW_.out (by kernel_rfl)) (fun _ _ _ h => h) (Or.inl ⟨by rfl, ?_⟩) hHeld ?_ ?_
                        rotate_left
                        ·rintro w' ⟨s0, s1, s2, s3, s4, s5, s6, s7, s8, s9, s10, s11⟩
                         go_simp
                         with_reducible rfl
                        rotate_left
                        ·simp only [Act.put, List.setIfInBounds_toArray, List.set_cons_zero, List.set_cons_succ, i64_w, i32_w]
                         rfl
                        refine take_ (i := 34) (N := some 171) (v := ?_) (a' := ?_) #[true, true, true, true, true, true, true, true, true, true, true, true, true, true, true, true, true, true, true, true, true, true, true, true, true, true, true, true, true, true, true, true, true, true, true, false, false, false] rfl rfl (take_ofW HT_.out HW_.out (by kernel_rfl)) (fun _ _ _ h => h) (Or.inl ⟨by rfl, ?_⟩) hHeld ?_ ?_
                        rotate_left
                        ·rintro w' ⟨s0, s1, s2, s3, s4, s5, s6, s7, s8, s9, s10, s11⟩
                         go_simp
                         with_reducible rfl
                        rotate_left
                        ·simp only [Act.put, List.setIfInBounds_toArray, List.set_cons_zero, List.set_cons_succ, i64_w, i32_w]
                         rfl
                        refine pure_ (i := 35) (N := some 172) (v := ?_) (a' := ?_) #[true, true, true, true, true, true, true, true, true, true, true, true, true, true, true, true, true, true, true, true, true, true, true, true, true, true, true, true, true, true, true, true, true, true, true, true, false, false] rfl rfl (any_of HT_.out (by kernel_rfl)) (fun _ _ _ h => h) (Or.inl ⟨by rfl, ?_⟩) ?_ ?_
                        rotate_left
                        ·intro w'
                         go_simp
                         with_reducible rfl
                        rotate_left
                        ·simp only [Act.put, List.setIfInBounds_toArray, List.set_cons_zero, List.set_cons_succ, i64_w, i32_w]
                         rfl
                        refine pure_ (i := 36) (N := some 173) (v := ?_) (a' := ?_) #[true, true, true, true, true, true, true, true, true, true, true, true, true, true, true, true, true, true, true, true, true, true, true, true, true, true, true, true, true, true, true, true, true, true, true, true, true, false] rfl rfl (any_of HT_.out (by kernel_rfl)) (fun _ _ _ h => h) (Or.inl ⟨by rfl, ?_⟩) ?_ ?_
                        rotate_left
                        ·intro w'
                         go_simp
                         with_reducible rfl
                        rotate_left
                        ·simp only [Act.put, List.setIfInBounds_toArray, List.set_cons_zero, List.set_cons_succ, i64_w, i32_w]
                         rfl
                        refine pure_ (i := 37) (N := some 174) (v := ?_) (a' := ?_) #[true, true, true, true, true, true, true, true, true, true, true, true, true, true, true, true, true, true, true, true, true, true, true, true, true, true, true, true, true, true, true, true, true, true, true, true, true, true] rfl rfl (any_of HT_.out (by kernel_rfl)) (fun _ _ _ h => h) (Or.inl ⟨by rfl, ?_⟩) ?_ ?_
                        rotate_left
                        ·intro w'
                         go_simp
                         with_reducible rfl
                        rotate_left
                        ·simp only [Act.put, List.setIfInBounds_toArray, List.set_cons_zero, List.set_cons_succ, i64_w, i32_w]
                         rfl
                        refine done_ (done_of HT_.out (by kernel_rfl)) ?_
                        try go_wp2
                        go_roundg k6
                        case measure => have := HJ2.out; have := HK2.out; have := HJ23.out; have := HJ26.out; have := HJ86.out; have := HK6.out; omega
                        case rel => exact ⟨(wrap64 (x13_6 + 1)), (by first | rfl | (simp; done) | (simp [*]; done) | (congr 1; omega) | (simp; omega)), H', ⟨by have := HJ2.out; have := HK2.out; have := HJ23.out; have := HJ26.out; have := HJ86.out; have := HK6.out; omega⟩, ⟨by (with_reducible repeat (first | apply Kd.S_alloc | apply Kd.S_drewN | apply Kd.S_drew)); exact HO_7.out⟩, ⟨by (with_reducible repeat (first | apply Kd.V_alloc | apply Kd.V_drewN | apply Kd.V_drew)); exact HO_203002.out⟩, ⟨by (with_reducible repeat (first | refine blk_drewN ?_ _ | refine blk_drew ?_ | refine blk_alloc ?_ _)); exact BK202.out⟩, ⟨by repeat (first | (with_reducible first | exact HB.out | apply below_alloc | apply pw_below_drewN | apply below_drew1 | refine below_set ?_ GE202.out) | exact HB.out)⟩⟩
                     ·rw [if_neg c103] at H
                      have c103b0 : (((rd_T44 x7_26 x13_6).f0) == (wrap64 (((rd_T44 x7_26 (ji100)).f0) + 1))) = false := beq_eq_false_iff_ne.mpr c103
                      have c103b1 : (((rd_T44 x7_26 x13_6).f0) != (wrap64 (((rd_T44 x7_26 (ji100)).f0) + 1))) = true := bne_iff_ne.mpr c103
                      exact absurd ((Option.some.inj H).trans HR_.out) (by simp)
                    ·rw [if_neg c102] at H
                     exact absurd H (by simp)
                   ·rw [if_neg c101] at H
                    exact absurd H (by simp)
                  ·rw [if_neg c99] at H
                   exact absurd H (by simp)
                 ·rw [if_neg c98] at H
                  have c98b0 : decide (0 < x13_6) = false := decide_eq_false c98
                  clear c98
                  by_cases c108 : 0 ≤ x13_6
                  ·rw [if_pos c108] at H
                   have c108b0 : decide (0 ≤ x13_6) = true := decide_eq_true c108
                   clear c108
                   by_cases c109 : ((rd_T44 x7_26 x13_6).f0) < x203000_26
                   ·rw [if_pos c109] at H
                    have c109b0 : decide (((rd_T44 x7_26 x13_6).f0) < x203000_26) = true := decide_eq_true c109
                    clear c109
                    exact absurd ((Option.some.inj H).trans HR_.out) (by simp)
                   ·rw [if_neg c109] at H
                    have c109b0 : decide (((rd_T44 x7_26 x13_6).f0) < x203000_26) = false := decide_eq_false c109
                    clear c109
                    by_cases c110 : ((rd_T44 x7_26 x13_6).f0) ≥ (wrap64 (x203000_26 + 16))
                    ·rw [if_pos c110] at H
                     have c110b0 : decide ((wrap64 (x203000_26 + 16)) ≤ ((rd_T44 x7_26 x13_6).f0)) = true := decide_eq_true c110
                     clear c110
                     exact absurd ((Option.some.inj H).trans HR_.out) (by simp)
                    ·rw [if_neg c110] at H
                     have c110b0 : decide ((wrap64 (x203000_26 + 16)) ≤ ((rd_T44 x7_26 x13_6).f0)) = false := decide_eq_false c110
                     clear c110
                     have H' := Aside0.mk H
                     clear H
                     obtain ⟨Ao111, co111, eo111⟩ := Kd.S_slice HO_7.out
                     subst eo111
                     try go_wp2
                     have n0_ := Aside0.mk (Kd.S_drew HO_7.out)
                     have n1_ := Aside0.mk (Kd.V_drew HO_203002.out)
                     have n2_ := Aside0.mk (blk_drew BK202.out)
                     have n3_ := Aside0.mk (below_drew1 HB.out)
                     clear HO_7
                     clear HO_203002
                     clear BK202
                     clear HB
                     have HO_7 := n0_
                     have HO_203002 := n1_
                     have BK202 := n2_
                     have HB := n3_
                     clear n0_ n1_ n2_ n3_
                     have p256 : 0 ≤ (x13_6 : Int) := of_decide_eq_true (by first | (with_reducible assumption) | assumption)
                     have q256 : x13_6 < (x7_26.length : Int) := of_decide_eq_true (by first | (with_reducible assumption) | assumption)
                     obtain ⟨ad256, A256_1, c256_1, e256, hx256_0, hx256_1, hl256_1, hi256_1⟩ := at_T44 (Kd.S_reads' HO_7.out).2.2 x13_6 p256 q256
                     cases e256
                     obtain ⟨ce256, hce256, hMe256, hcc256⟩ := Kd.S_get HO_7.out z44 x13_6 p256 (by first | exact q256 | exact of_decide_eq_true (by first | (with_reducible assumption) | assumption) | (have e_ := (Kd.S_reads' HO_7.out).1; omega))
                     obtain ⟨ve256_1, rfl, ge256_1⟩ := k44_openM hMe256
                     have hv256_1 := hcc256 1 _ rfl
                     rw [add_field _ _ 1 (by omega)] at hv256_1
                     replace hv256_1 := Option.some.inj (hv256_1.symm.trans hx256_1)
                     rw [hv256_1] at ge256_1
                     have HL256_1 := Aside0.mk (show Kd.R (Kd.int .u8) 5 _ _ _ _ ((rd_T44 x7_26 x13_6).f1) from ge256_1)
                     clear hv256_1 ge256_1
                     clear hcc256 hce256
                     have HR256_1 := Aside0.mk hi256_1
                     have HC256_1 := Aside0.mk hl256_1
                     clear hi256_1 hl256_1
                     replace p256 := eq_true p256
                     replace q256 := eq_true q256
                     have p257 : 0 ≤ (x13_6 : Int) := of_decide_eq_true (by first | (with_reducible assumption) | assumption)
                     have q257 : x13_6 < (x7_26.length : Int) := of_decide_eq_true (by first | (with_reducible assumption) | assumption)
                     obtain ⟨ad257, A257_1, c257_1, e257, hx257_0, hx257_1, hl257_1, hi257_1⟩ := at_T44 (Kd.S_reads' HO_7.out).2.2 x13_6 p257 q257
                     obtain rfl : ad256 = ad257 := (by injection e257)
                     obtain ⟨ce257, hce257, hMe257, hcc257⟩ := Kd.S_get HO_7.out z44 x13_6 p257 (by first | exact q257 | exact of_decide_eq_true (by first | (with_reducible assumption) | assumption) | (have e_ := (Kd.S_reads' HO_7.out).1; omega))
                     obtain ⟨ve257_1, rfl, ge257_1⟩ := k44_openM hMe257
                     have hv257_1 := hcc257 1 _ rfl
                     rw [add_field _ _ 1 (by omega)] at hv257_1
                     replace hv257_1 := Option.some.inj (hv257_1.symm.trans hx257_1)
                     rw [hv257_1] at ge257_1
                     have HL257_1 := Aside0.mk (show Kd.R (Kd.int .u8) 5 _ _ _ _ ((rd_T44 x7_26 x13_6).f1) from ge257_1)
                     clear hv257_1 ge257_1
                     clear hcc257 hce257
                     have HR257_1 := Aside0.mk hi257_1
                     have HC257_1 := Aside0.mk hl257_1
                     clear hi257_1 hl257_1
                     replace p257 := eq_true p257
                     replace q257 := eq_true q257
                     have ea_ := Option.some.inj (hx256_1.symm.trans hx257_1)
                     injection ea_ with ea_ en_ ec_
                     subst ea_
                     subst ec_
                     clear en_
                     refine start_ (n := 38) (S := fun w' => w'.cell? ⟨gb202, 0, none⟩ = some (.int .i64 x203000_26) ∧ w'.cell? ⟨gb202, 1, none⟩ = some (.int .i64 x203001_26) ∧ w'.cell? ⟨gb202, 2, none⟩ = some (.slice Ao96 x203002_26.length co96) ∧ w'.cell? ⟨gb202, 3, none⟩ = some (.int .i64 x203003_26) ∧ w'.cell? (ad256.add ((x13_6).toNat * 2)) = some (.int .i64 ((rd_T44 x7_26 x13_6).f0)) ∧ w'.cell? ⟨(ad256.add ((x13_6).toNat * 2)).block, (ad256.add ((x13_6).toNat * 2)).off + 1, none⟩ = some (.slice A256_1 ((rd_T44 x7_26 x13_6).f1).length c256_1) ∧ w'.cell? (ad256.add ((x13_6).toNat * 2)) = some (.int .i64 ((rd_T44 x7_26 x13_6).f0)) ∧ w'.cell? ⟨(ad256.add ((x13_6).toNat * 2)).block, (ad256.add ((x13_6).toNat * 2)).off + 1, none⟩ = some (.slice A256_1 ((rd_T44 x7_26 x13_6).f1).length c256_1)) (ds := []) #[false, false, false, false, false, false, false, false, false, false, false, false, false, false, false, false, false, false, false, false, false, false, false, false, false, false, false, false, false, false, false, false, false, false, false, false, false, false] (by kernel_rfl) rfl rfl ⟨(blk_cell BK202.out 0).trans rfl, (blk_cell BK202.out 1).trans rfl, (blk_cell BK202.out 2).trans rfl, (blk_cell BK202.out 3).trans rfl, hx256_0, hx256_1, hx257_0, hx257_1⟩ (fun hHeld => ?_); refine with_tabW withylaw14_SendNumbers.tab29 withylaw14_SendNumbers.bits29 (fun HT_ HW_ => ?_)
                     generalize wr.drew = w112 at HO_7 HO_203002 BK202 HB HL256_1 HL257_1 HR256_1 HR257_1 hx256_0 hx256_1 hx257_0 hx257_1 hHeld ⊢
                     refine pure_ (i := 0) (N := some 137) (v := ?_) (a' := ?_) #[true, false, false, false, false, false, false, false, false, false, false, false, false, false, false, false, false, false, false, false, false, false, false, false, false, false, false, false, false, false, false, false, false, false, false, false, false, false] rfl rfl (any_of HT_.out (by kernel_rfl)) (fun _ _ _ h => h) (Or.inl ⟨by rfl, ?_⟩) ?_ ?_
                     rotate_left
                     ·intro w'
                      go_simp
                      with_reducible rfl
                     rotate_left
                     ·simp only [Act.put, List.setIfInBounds_toArray, List.set_cons_zero, List.set_cons_succ, i64_w, i32_w]
                      rfl
                     refine pure_ (i := 1) (N := some 138) (v := ?_) (a' := ?_) #[true, true, false, false, false, false, false, false, false, false, false, false, false, false, false, false, false, false, false, false, false, false, false, false, false, false, false, false, false, false, false, false, false, false, false, false, false, false] rfl rfl (any_of HT_.out (by kernel_rfl)) (fun _ _ _ h => h) (Or.inl ⟨by rfl, ?_⟩) ?_ ?_
                     rotate_left
                     ·intro w'
                      go_simp
                      with_reducible rfl
                     rotate_left
                     ·simp only [Act.put, List.setIfInBounds_toArray, List.set_cons_zero, List.set_cons_succ, i64_w, i32_w]
                      rfl
                     refine pure_ (i := 2) (N := some 139) (v := ?_) (a' := ?_) #[true, true, true, false, false, false, false, false, false, false, false, false, false, false, false, false, false, false, false, false, false, false, false, false, false, false, false, false, false, false, false, false, false, false, false, false, false, false] rfl rfl (any_of HT_.out (by kernel_rfl)) (fun _ _ _ h => h) (Or.inl ⟨by rfl, ?_⟩) ?_ ?_
                     rotate_left
                     ·intro w'
                      go_simp
                      with_reducible rfl
                     rotate_left
                     ·simp only [Act.put, List.setIfInBounds_toArray, List.set_cons_zero, List.set_cons_succ, i64_w, i32_w]
                      rfl
                     refine pure_ (i := 3) (N := some 140) (v := undef) (a' := ?_) #[true, true, true, true, false, false, false, false, false, false, false, false, false, false, false, false, false, false, false, false, false, false, false, false, false, false, false, false, false, false, false, false, false, false, false, false, false, false] rfl rfl (any_of HT_.out (by kernel_rfl)) (fun _ _ _ h => h) (Or.inr ⟨by rfl, rfl⟩) ?_ ?_
                     rotate_left
                     ·simp only [Act.put, List.setIfInBounds_toArray, List.set_cons_zero, List.set_cons_succ, i64_w, i32_w]
                      rfl
                     refine pure_ (i := 4) (N := some 141) (v := undef) (a' := ?_) #[true, true, true, true, true, false, false, false, false, false, false, false, false, false, false, false, false, false, false, false, false, false, false, false, false, false, false, false, false, false, false, false, false, false, false, false, false, false] rfl rfl (any_of HT_.out (by kernel_rfl)) (fun _ _ _ h => h) (Or.inr ⟨by rfl, rfl⟩) ?_ ?_
                     rotate_left
                     ·simp only [Act.put, List.setIfInBounds_toArray, List.set_cons_zero, List.set_cons_succ, i64_w, i32_w]
                      rfl
                     refine pure_ (i := 5) (N := some 142) (v := undef) (a' := ?_) #[true, true, true, true, true, true, false, false, false, false, false, false, false, false, false, false, false, false, false, false, false, false, false, false, false, false, false, false, false, false, false, false, false, false, false, false, false, false] rfl rfl (any_of HT_.out (by kernel_rfl)) (fun _ _ _ h => h) (Or.inr ⟨by rfl, rfl⟩) ?_ ?_
                     rotate_left
                     ·simp only [Act.put, List.setIfInBounds_toArray, List.set_cons_zero, List.set_cons_succ, i64_w, i32_w]
                      rfl
                     refine pure_ (i := 6) (N := some 143) (v := undef) (a' := ?_) #[true, true, true, true, true, true, true, false, false, false, false, false, false, false, false, false, false, false, false, false, false, false, false, false, false, false, false, false, false, false, false, false, false, false, false, false, false, false] rfl rfl (any_of HT_.out (by kernel_rfl)) (fun _ _ _ h => h) (Or.inr ⟨by rfl, rfl⟩) ?_ ?_
                     rotate_left
                     ·simp only [Act.put, List.setIfInBounds_toArray, List.set_cons_zero, List.set_cons_succ, i64_w, i32_w]
                      rfl
                     refine pure_ (i := 7) (N := some 144) (v := undef) (a' := ?_) #[true, true, true, true, true, true, true, true, false, false, false, false, false, false, false, false, false, false, false, false, false, false, false, false, false, false, false, false, false, false, false, false, false, false, false, false, false, false] rfl rfl (any_of HT_.out (by kernel_rfl)) (fun _ _ _ h => h) (Or.inr ⟨by rfl, rfl⟩) ?_ ?_
                     rotate_left
                     ·simp only [Act.put, List.setIfInBounds_toArray, List.set_cons_zero, List.set_cons_succ, i64_w, i32_w]
                      rfl
                     refine pure_ (i := 8) (N := some 145) (v := undef) (a' := ?_) #[true, true, true, true, true, true, true, true, true, false, false, false, false, false, false, false, false, false, false, false, false, false, false, false, false, false, false, false, false, false, false, false, false, false, false, false, false, false] rfl rfl (any_of HT_.out (by kernel_rfl)) (fun _ _ _ h => h) (Or.inr ⟨by rfl, rfl⟩) ?_ ?_
                     rotate_left
                     ·simp only [Act.put, List.setIfInBounds_toArray, List.set_cons_zero, List.set_cons_succ, i64_w, i32_w]
                      rfl
                     refine pure_ (i := 9) (N := some 146) (v := undef) (a' := ?_) #[true, true, true, true, true, true, true, true, true, true, false, false, false, false, false, false, false, false, false, false, false, false, false, false, false, false, false, false, false, false, false, false, false, false, false, false, false, false] rfl rfl (any_of HT_.out (by kernel_rfl)) (fun _ _ _ h => h) (Or.inr ⟨by rfl, rfl⟩) ?_ ?_
                     rotate_left
                     ·simp only [Act.put, List.setIfInBounds_toArray, List.set_cons_zero, List.set_cons_succ, i64_w, i32_w]
                      rfl
                     refine pure_ (i := 10) (N := some 147) (v := undef) (a' := ?_) #[true, true, true, true, true, true, true, true, true, true, true, false, false, false, false, false, false, false, false, false, false, false, false, false, false, false, false, false, false, false, false, false, false, false, false, false, false, false] rfl rfl (any_of HT_.out (by kernel_rfl)) (fun _ _ _ h => h) (Or.inr ⟨by rfl, rfl⟩) ?_ ?_
                     rotate_left
                     ·simp only [Act.put, List.setIfInBounds_toArray, List.set_cons_zero, List.set_cons_succ, i64_w, i32_w]
                      rfl
                     refine pure_ (i := 11) (N := some 148) (v := undef) (a' := ?_) #[true, true, true, true, true, true, true, true, true, true, true, true, false, false, false, false, false, false, false, false, false, false, false, false, false, false, false, false, false, false, false, false, false, false, false, false, false, false] rfl rfl (any_of HT_.out (by kernel_rfl)) (fun _ _ _ h => h) (Or.inr ⟨by rfl, rfl⟩) ?_ ?_
                     rotate_left
                     ·simp only [Act.put, List.setIfInBounds_toArray, List.set_cons_zero, List.set_cons_succ, i64_w, i32_w]
                      rfl
                     refine pure_ (i := 12) (N := some 149) (v := undef) (a' := ?_) #[true, true, true, true, true, true, true, true, true, true, true, true, true, false, false, false, false, false, false, false, false, false, false, false, false, false, false, false, false, false, false, false, false, false, false, false, false, false] rfl rfl (any_of HT_.out (by kernel_rfl)) (fun _ _ _ h => h) (Or.inr ⟨by rfl, rfl⟩) ?_ ?_
                     rotate_left
                     ·simp only [Act.put, List.setIfInBounds_toArray, List.set_cons_zero, List.set_cons_succ, i64_w, i32_w]
                      rfl
                     refine pure_ (i := 13) (N := some 150) (v := undef) (a' := ?_) #[true, true, true, true, true, true, true, true, true, true, true, true, true, true, false, false, false, false, false, false, false, false, false, false, false, false, false, false, false, false, false, false, false, false, false, false, false, false] rfl rfl (any_of HT_.out (by kernel_rfl)) (fun _ _ _ h => h) (Or.inr ⟨by rfl, rfl⟩) ?_ ?_
                     rotate_left
                     ·simp only [Act.put, List.setIfInBounds_toArray, List.set_cons_zero, List.set_cons_succ, i64_w, i32_w]
                      rfl
                     refine pure_ (i := 14) (N := some 151) (v := undef) (a' := ?_) #[true, true, true, true, true, true, true, true, true, true, true, true, true, true, true, false, false, false, false, false, false, false, false, false, false, false, false, false, false, false, false, false, false, false, false, false, false, false] rfl rfl (any_of HT_.out (by kernel_rfl)) (fun _ _ _ h => h) (Or.inr ⟨by rfl, rfl⟩) ?_ ?_
                     rotate_left
                     ·simp only [Act.put, List.setIfInBounds_toArray, List.set_cons_zero, List.set_cons_succ, i64_w, i32_w]
                      rfl
                     refine pure_ (i := 15) (N := some 152) (v := undef) (a' := ?_) #[true, true, true, true, true, true, true, true, true, true, true, true, true, true, true, true, false, false, false, false, false, false, false, false, false, false, false, false, false, false, false, false, false, false, false, false, false, false] rfl rfl (any_of HT_.out (by kernel_rfl)) (fun _ _ _ h => h) (Or.inr ⟨by rfl, rfl⟩) ?_ ?_
                     rotate_left
                     ·simp only [Act.put, List.setIfInBounds_toArray, List.set_cons_zero, List.set_cons_succ, i64_w, i32_w]
                      rfl
                     refine pure_ (i := 16) (N := some 153) (v := ?_) (a' := ?_) #[true, true, true, true, true, true, true, true, true, true, true, true, true, true, true, true, true, false, false, false, false, false, false, false, false, false, false, false, false, false, false, false, false, false, false, false, false, false] rfl rfl (any_of HT_.out (by kernel_rfl)) (fun _ _ _ h => h) (Or.inl ⟨by rfl, ?_⟩) ?_ ?_
                     rotate_left
                     ·intro w'
                      go_simp
                      with_reducible rfl
                     rotate_left
                     ·simp only [Act.put, List.setIfInBounds_toArray, List.set_cons_zero, List.set_cons_succ, i64_w, i32_w]
                      rfl
                     refine pure_ (i := 17) (N := some 154) (v := ?_) (a' := ?_) #[true, true, true, true, true, true, true, true, true, true, true, true, true, true, true, true, true, true, false, false, false, false, false, false, false, false, false, false, false, false, false, false, false, false, false, false, false, false] rfl rfl (any_of HT_.out (by kernel_rfl)) (fun _ _ _ h => h) (Or.inl ⟨by rfl, ?_⟩) ?_ ?_
                     rotate_left
                     ·intro w'
                      go_simp
                      with_reducible rfl
                     rotate_left
                     ·simp only [Act.put, List.setIfInBounds_toArray, List.set_cons_zero, List.set_cons_succ, i64_w, i32_w]
                      rfl
                     refine pure_ (i := 18) (N := some 155) (v := ?_) (a' := ?_) #[true, true, true, true, true, true, true, true, true, true, true, true, true, true, true, true, true, true, true, false, false, false, false, false, false, false, false, false, false, false, false, false, false, false, false, false, false, false] rfl rfl (any_of HT_.out (by kernel_rfl)) (fun _ _ _ h => h) (Or.inl ⟨by rfl, ?_⟩) ?_ ?_
                     rotate_left
                     ·intro w'
                      go_simp
                      with_reducible rfl
                     rotate_left
                     ·simp only [Act.put, List.setIfInBounds_toArray, List.set_cons_zero, List.set_cons_succ, i64_w, i32_w]
                      rfl
                     refine pure_ (i := 19) (N := some 156) (v := ?_) (a' := ?_) #[true, true, true, true, true, true, true, true, true, true, true, true, true, true, true, true, true, true, true, true, false, false, false, false, false, false, false, false, false, false, false, false, false, false, false, false, false, false] rfl rfl (any_of HT_.out (by kernel_rfl)) (fun _ _ _ h => h) (Or.inl ⟨by rfl, ?_⟩) ?_ ?_
                     rotate_left
                     ·intro w'
                      go_simp
                      with_reducible rfl
                     rotate_left
                     ·simp only [Act.put, List.setIfInBounds_toArray, List.set_cons_zero, List.set_cons_succ, i64_w, i32_w]
                      rfl
                     refine pure_ (i := 20) (N := some 157) (v := ?_) (a' := ?_) #[true, true, true, true, true, true, true, true, true, true, true, true, true, true, true, true, true, true, true, true, true, false, false, false, false, false, false, false, false, false, false, false, false, false, false, false, false, false] rfl rfl (any_of HT_.out (by kernel_rfl)) (fun _ _ _ h => h) (Or.inl ⟨by rfl, ?_⟩) ?_ ?_
                     rotate_left
                     ·intro w'
                      go_simp
                      with_reducible rfl
                     rotate_left
                     ·simp only [Act.put, List.setIfInBounds_toArray, List.set_cons_zero, List.set_cons_succ, i64_w, i32_w]
                      rfl
                     refine pure_ (i := 21) (N := some 158) (v := ?_) (a' := ?_) #[true, true, true, true, true, true, true, true, true, true, true, true, true, true, true, true, true, true, true, true, true, true, false, false, false, false, false, false, false, false, false, false, false, false, false, false, false, false] rfl rfl (any_of HT_.out (by kernel_rfl)) (fun _ _ _ h => h) (Or.inl ⟨by rfl, ?_⟩) ?_ ?_
                     rotate_left
                     ·intro w'
                      go_simp
                      with_reducible rfl
                     rotate_left
                     ·simp only [Act.put, List.setIfInBounds_toArray, List.set_cons_zero, List.set_cons_succ, i64_w, i32_w]
                      rfl
                     refine pure_ (i := 23) (N := some 160) (v := ?_) (a' := ?_) #[true, true, true, true, true, true, true, true, true, true, true, true, true, true, true, true, true, true, true, true, true, true, false, true, false, false, false, false, false, false, false, false, false, false, false, false, false, false] rfl rfl (any_of HT_.out (by kernel_rfl)) (fun _ _ _ h => h) (Or.inl ⟨by rfl, ?_⟩) ?_ ?_
                     rotate_left
                     ·intro w'
                      go_simp
                      with_reducible rfl
                     rotate_left
                     ·simp only [Act.put, List.setIfInBounds_toArray, List.set_cons_zero, List.set_cons_succ, i64_w, i32_w]
                      rfl
                     refine take_ (i := 22) (N := some 159) (v := ?_) (a' := ?_) #[true, true, true, true, true, true, true, true, true, true, true, true, true, true, true, true, true, true, true, true, true, true, true, true, false, false, false, false, false, false, false, false, false, false, false, false, false, false] rfl rfl (take_ofW HT_.out HW_.out (by kernel_rfl)) (fun _ _ _ h => h) (Or.inl ⟨by rfl, ?_⟩) hHeld ?_ ?_
                     rotate_left
                     ·rintro w' ⟨s0, s1, s2, s3, s4, s5, s6, s7⟩
                      go_simp
                      with_reducible rfl
                     rotate_left
                     ·simp only [Act.put, List.setIfInBounds_toArray, List.set_cons_zero, List.set_cons_succ, i64_w, i32_w]
                      rfl
                     refine take_ (i := 24) (N := some 161) (v := ?_) (a' := ?_) #[true, true, true, true, true, true, true, true, true, true, true, true, true, true, true, true, true, true, true, true, true, true, true, true, true, false, false, false, false, false, false, false, false, false, false, false, false, false] rfl rfl (take_ofW HT_.out HW_.out (by kernel_rfl)) (fun _ _ _ h => h) (Or.inl ⟨by rfl, ?_⟩) hHeld ?_ ?_
                     rotate_left
                     ·rintro w' ⟨s0, s1, s2, s3, s4, s5, s6, s7⟩
                      go_simp
                      with_reducible rfl
                     rotate_left
                     ·simp only [Act.put, List.setIfInBounds_toArray, List.set_cons_zero, List.set_cons_succ, i64_w, i32_w]
                      rfl
                     refine pure_ (i := 25) (N := some 162) (v := ?_) (a' := ?_) #[true, true, true, true, true, true, true, true, true, true, true, true, true, true, true, true, true, true, true, true, true, true, true, true, true, true, false, false, false, false, false, false, false, false, false, false, false, false] rfl rfl (any_of HT_.out (by kernel_rfl)) (fun _ _ _ h => h) (Or.inl ⟨by rfl, ?_⟩) ?_ ?_
                     rotate_left
                     ·intro w'
                      go_simp
                      with_reducible rfl
                     rotate_left
                     ·simp only [Act.put, List.setIfInBounds_toArray, List.set_cons_zero, List.set_cons_succ, i64_w, i32_w]
                      rfl
                     refine pure_ (i := 26) (N := some 163) (v := ?_) (a' := ?_) #[true, true, true, true, true, true, true, true, true, true, true, true, true, true, true, true, true, true, true, true, true, true, true, true, true, true, true, false, false, false, false, false, false, false, false, false, false, false] rfl rfl (any_of HT_.out (by kernel_rfl)) (fun _ _ _ h => h) (Or.inl ⟨by rfl, ?_⟩) ?_ ?_
                     rotate_left
                     ·intro w'
                      go_simp
                      with_reducible rfl
                     rotate_left
                     ·simp only [Act.put, List.setIfInBounds_toArray, List.set_cons_zero, List.set_cons_succ, i64_w, i32_w]
                      rfl
                     refine pure_ (i := 27) (N := some 164) (v := ?_) (a' := ?_) #[true, true, true, true, true, true, true, true, true, true, true, true, true, true, true, true, true, true, true, true, true, true, true, true, true, true, true, true, false, false, false, false, false, false, false, false, false, false] rfl rfl (any_of HT_.out (by kernel_rfl)) (fun _ _ _ h => h) (Or.inl ⟨by rfl, ?_⟩) ?_ ?_
                     rotate_left
                     ·intro w'
                      go_simp
                      with_reducible rfl
                     rotate_left
                     ·simp only [Act.put, List.setIfInBounds_toArray, List.set_cons_zero, List.set_cons_succ, i64_w, i32_w]
                      rfl
                     refine pure_ (i := 28) (N := some 165) (v := ?_) (a' := ?_) #[true, true, true, true, true, true, true, true, true, true, true, true, true, true, true, true, true, true, true, true, true, true, true, true, true, true, true, true, true, false, false, false, false, false, false, false, false, false] rfl rfl (any_of HT_.out (by kernel_rfl)) (fun _ _ _ h => h) (Or.inl ⟨by rfl, ?_⟩) ?_ ?_
                     rotate_left
                     ·intro w'
                      go_simp
                      with_reducible rfl
                     rotate_left
                     ·simp only [Act.put, List.setIfInBounds_toArray, List.set_cons_zero, List.set_cons_succ, i64_w, i32_w]
                      rfl
                     refine pure_ (i := 29) (N := some 166) (v := ?_) (a' := ?_) #[true, true, true, true, true, true, true, true, true, true, true, true, true, true, true, true, true, true, true, true, true, true, true, true, true, true, true, true, true, true, false, false, false, false, false, false, false, false] rfl rfl (any_of HT_.out (by kernel_rfl)) (fun _ _ _ h => h) (Or.inl ⟨by rfl, ?_⟩) ?_ ?_
                     rotate_left
                     ·intro w'
                      go_simp
                      with_reducible rfl
                     rotate_left
                     ·simp only [Act.put, List.setIfInBounds_toArray, List.set_cons_zero, List.set_cons_succ, i64_w, i32_w]
                      rfl
                     refine pure_ (i := 30) (N := some 167) (v := ?_) (a' := ?_) #[true, true, true, true, true, true, true, true, true, true, true, true, true, true, true, true, true, true, true, true, true, true, true, true, true, true, true, true, true, true, true, false, false, false, false, false, false, false] rfl rfl (any_of HT_.out (by kernel_rfl)) (fun _ _ _ h => h) (Or.inl ⟨by rfl, ?_⟩) ?_ ?_
                     rotate_left
                     ·intro w'
                      go_simp
                      with_reducible rfl
                     rotate_left
                     ·simp only [Act.put, List.setIfInBounds_toArray, List.set_cons_zero, List.set_cons_succ, i64_w, i32_w]
                      rfl
                     refine pure_ (i := 31) (N := some 168) (v := ?_) (a' := ?_) #[true, true, true, true, true, true, true, true, true, true, true, true, true, true, true, true, true, true, true, true, true, true, true, true, true, true, true, true, true, true, true, true, false, false, false, false, false, false] rfl rfl (any_of HT_.out (by kernel_rfl)) (fun _ _ _ h => h) (Or.inl ⟨by rfl, ?_⟩) ?_ ?_
                     rotate_left
                     ·intro w'
                      go_simp
                      with_reducible rfl
                     rotate_left
                     ·simp only [Act.put, List.setIfInBounds_toArray, List.set_cons_zero, List.set_cons_succ, i64_w, i32_w]
                      rfl
                     refine pure_ (i := 33) (N := some 170) (v := ?_) (a' := ?_) #[true, true, true, true, true, true, true, true, true, true, true, true, true, true, true, true, true, true, true, true, true, true, true, true, true, true, true, true, true, true, true, true, false, true, false, false, false, false] rfl rfl (any_of HT_.out (by kernel_rfl)) (fun _ _ _ h => h) (Or.inl ⟨by rfl, ?_⟩) ?_ ?_
                     rotate_left
                     ·intro w'
                      go_simp
                      with_reducible rfl
                     rotate_left
                     ·simp only [Act.put, List.setIfInBounds_toArray, List.set_cons_zero, List.set_cons_succ, i64_w, i32_w]
                      rfl
                     refine take_ (i := 32) (N := some 169) (v := ?_) (a' := ?_) #[true, true, true, true, true, true, true, true, true, true, true, true, true, true, true, true, true, true, true, true, true, true, true, true, true, true, true, true, true, true, true, true, true, true, false, false, false, false] rfl rfl (take_ofW HT_.out HW_.out (by kernel_rfl)) (fun _ _ _ h => h) (Or.inl ⟨by rfl, ?_⟩) hHeld ?_ ?_
                     rotate_left
                     ·rintro w' ⟨s0, s1, s2, s3, s4, s5, s6, s7⟩
                      go_simp
                      with_reducible rfl
                     rotate_left
                     ·simp only [Act.put, List.setIfInBounds_toArray, List.set_cons_zero, List.set_cons_succ, i64_w, i32_w]
                      rfl
                     refine take_ (i := 34) (N := some 171) (v := ?_) (a' := ?_) #[true, true, true, true, true, true, true, true, true, true, true, true, true, true, true, true, true, true, true, true, true, true, true, true, true, true, true, true, true, true, true, true, true, true, true, false, false, false] rfl rfl (take_ofW HT_.out HW_.out (by kernel_rfl)) (fun _ _ _ h => h) (Or.inl ⟨by rfl, ?_⟩) hHeld ?_ ?_
                     rotate_left
                     ·rintro w' ⟨s0, s1, s2, s3, s4, s5, s6, s7⟩
                      go_simp
                      with_reducible rfl
                     rotate_left
                     ·simp only [Act.put, List.setIfInBounds_toArray, List.set_cons_zero, List.set_cons_succ, i64_w, i32_w]
                      rfl
                     refine pure_ (i := 35) (N := some 172) (v := ?_) (a' := ?_) #[true, true, true, true, true, true, true, true, true, true, true, true, true, true, true, true, true, true, true, true, true, true, true, true, true, true, true, true, true, true, true, true, true, true, true, true, false, false] rfl rfl (any_of HT_.out (by kernel_rfl)) (fun _ _ _ h => h) (Or.inl ⟨by rfl, ?_⟩) ?_ ?_
                     rotate_left
                     ·intro w'
                      go_simp
                      with_reducible rfl
                     rotate_left
                     ·simp only [Act.put, List.setIfInBounds_toArray, List.set_cons_zero, List.set_cons_succ, i64_w, i32_w]
                      rfl
                     refine pure_ (i := 36) (N := some 173) (v := ?_) (a' := ?_) #[true, true, true, true, true, true, true, true, true, true, true, true, true, true, true, true, true, true, true, true, true, true, true, true, true, true, true, true, true, true, true, true, true, true, true, true, true, false] rfl rfl (any_of HT_.out (by kernel_rfl)) (fun _ _ _ h => h) (Or.inl ⟨by rfl, ?_⟩) ?_ ?_
                     rotate_left
                     ·intro w'
                      go_simp
                      with_reducible rfl
                     rotate_left
                     ·simp only [Act.put, List.setIfInBounds_toArray, List.set_cons_zero, List.set_cons_succ, i64_w, i32_w]
                      rfl
                     refine pure_ (i := 37) (N := some 174) (v := ?_) (a' := ?_) #[true, true, true, true, true, true, true, true, true, true, true, true, true, true, true, true, true, true, true, true, true, true, true, true, true, true, true, true, true, true, true, true, true, true, true, true, true, true] rfl rfl (any_of HT_.out (by kernel_rfl)) (fun _ _ _ h => h) (Or.inl ⟨by rfl, ?_⟩) ?_ ?_
                     rotate_left
                     ·intro w'
                      go_simp
                      with_reducible rfl
                     rotate_left
                     ·simp only [Act.put, List.setIfInBounds_toArray, List.set_cons_zero, List.set_cons_succ, i64_w, i32_w]
                      rfl
                     refine done_ (done_of HT_.out (by kernel_rfl)) ?_
                     try go_wp2
                     go_roundg k6
                     case measure => have := HJ2.out; have := HK2.out; have := HJ23.out; have := HJ26.out; have := HJ86.out; have := HK6.out; omega
                     case rel => exact ⟨(wrap64 (x13_6 + 1)), (by first | rfl | (simp; done) | (simp [*]; done) | (congr 1; omega) | (simp; omega)), H', ⟨by have := HJ2.out; have := HK2.out; have := HJ23.out; have := HJ26.out; have := HJ86.out; have := HK6.out; omega⟩, ⟨by (with_reducible repeat (first | apply Kd.S_alloc | apply Kd.S_drewN | apply Kd.S_drew)); exact HO_7.out⟩, ⟨by (with_reducible repeat (first | apply Kd.V_alloc | apply Kd.V_drewN | apply Kd.V_drew)); exact HO_203002.out⟩, ⟨by (with_reducible repeat (first | refine blk_drewN ?_ _ | refine blk_drew ?_ | refine blk_alloc ?_ _)); exact BK202.out⟩, ⟨by repeat (first | (with_reducible first | exact HB.out | apply below_alloc | apply pw_below_drewN | apply below_drew1 | refine below_set ?_ GE202.out) | exact HB.out)⟩⟩
                  ·rw [if_neg c108] at H
                   exact absurd H (by simp)
                ·rw [if_neg c97] at H
                 have c97b0 : decide (x13_6 < (x7_26.length : Int)) = false := decide_eq_false c97
                 clear c97
                 have H' := Aside0.mk H
                 clear H
                 obtain ⟨Ao113, co113, eo113⟩ := Kd.S_slice HO_7.out
                 subst eo113
                 go_wp2
                 go_roundg k6
                 case measure => have := HJ2.out; have := HK2.out; have := HJ23.out; have := HJ26.out; have := HJ86.out; have := HK6.out; omega
                 case rel => exact ⟨((x203002_26.length : Int)), (wrap64 (x6_2 + 1)), (x203000_26), (x203001_26), (x203002_26), (x203003_26), (.slice Ao96 x203002_26.length co96), (by first | rfl | (simp; done) | (simp [*]; done) | (congr 1; omega) | (simp; omega)), (by first | rfl | (simp; done) | (simp [*]; done) | (congr 1; omega) | (simp; omega)), H', ⟨by have := HJ2.out; have := HK2.out; have := HJ23.out; have := HJ26.out; have := HJ86.out; have := HK6.out; omega⟩, ⟨by (with_reducible repeat (first | apply Kd.V_alloc | apply Kd.V_drewN | apply Kd.V_drew)); exact Kd.V_mono HO_203002.out (fun _ hk => ⟨hk.1, hk.2.2⟩)⟩, ⟨by (with_reducible repeat (first | refine blk_drewN ?_ _ | refine blk_drew ?_ | refine blk_alloc ?_ _)); exact BK202.out⟩, ⟨by repeat (first | (with_reducible first | exact HB.out | apply below_alloc | apply pw_below_drewN | apply below_drew1 | refine below_set ?_ GE202.out) | exact HB.out)⟩⟩
        ·replace c26 := Bool.eq_false_iff.mpr c26
         subst c26
         have H1 : ((withylaw14_awake.f kj23).bind fun t206 => (some t206)) = some r := by rw [if_neg (show ¬ (false = true) by decide)] at H; exact H
         clear H
         have H := H1
         clear H1
         replace H := Option.bind_eq_some_iff.mp H
         obtain ⟨t206, A1140, H⟩ := H
         replace H : (some t206) = some r := H
         have A114 := Aside0.mk A1140
         clear A1140
         obtain rfl := Option.some.inj H
         go_wp2_with (first | ((with_reducible refine gate_callee (f := 8) rfl ?_); refine goesL_ (some 175) rfl rfl Try.func8 (by kernel_rfl) rfl #[] rfl (by (try simp only [List.map_toArray, List.map_cons, List.map_nil]); first | done | rfl | (simp only [List.length_drop, List.length_take]; rfl)) ?_; (with_reducible refine (withylaw14_awake.calls kj23  t206 _ A114.out).mono ?_); rintro e w115 ⟨rfl, hb⟩; refine ⟨_, rfl, ?_⟩; have n0_ := Aside0.mk (Kd.V_below (by (with_reducible repeat (first | apply Kd.V_alloc | apply Kd.V_drewN | apply Kd.V_drew)); exact HO_203002.out) hb); have n1_ := Aside0.mk (blk_below (g := gb202) (o := .cells #[.int .i64 x203000_2, .int .i64 x203001_2, u203002, .int .i64 x203003_2] 24 (0, 0)) (by (with_reducible repeat (first | refine blk_drewN ?_ _ | refine blk_drew ?_ | refine blk_alloc ?_ _)); exact BK202.out) hb); have n2_ := Aside0.mk (below_step (by repeat (first | (with_reducible first | exact HB.out | apply below_alloc | apply pw_below_drewN | apply below_drew1 | refine below_set ?_ GE202.out) | exact HB.out)) hb); clear HO_203002; clear BK202; clear HB; have HO_203002 := n0_; have BK202 := n1_; have HB := n2_; clear n0_ n1_ n2_; (try clear hb); (try clear hb2); (try clear hk); (try clear hi)))
         go_ret
         exact ⟨by first | rfl | (simp [errW_none, errW_some] <;> rfl) | (simp [*, errW_none, errW_some] <;> rfl), by repeat (first | (with_reducible first | exact HB.out | apply below_alloc | apply pw_below_drewN | apply below_drew1 | refine below_set ?_ GE202.out) | exact HB.out)⟩
def withylaw14_SendNumbers.Pure : Prop := ∀ (a0_0 : Int) (a0_1 : Int) (l0_2 : List (List Int)) (a0_3 : Int) (l1 : List Int), (Lit.int .i64 a0_0).wf = true → (Lit.int .i64 a0_1).wf = true → l0_2.length * 24 ≤ 140737488351232 → (∀ x_ ∈ l0_2, (x_.length * 1 ≤ 140737488351232 ∧ ∀ y_ ∈ x_, (Lit.int .u8 y_).wf = true)) → (Lit.int .i64 a0_3).wf = true → l1.length * 8 ≤ 140737488351232 → (∀ x_ ∈ l1, (Lit.int .i64 x_).wf = true) → ∃ k, withylaw14_SendNumbers.f k a0_0 a0_1 l0_2 a0_3 l1 = some true

end Go.Proofs.Ytlbcffdjdbjgcaa.PSendNumbers
