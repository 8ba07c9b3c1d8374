-- written by a widened copy of the print, a program of this session; Lean checks it.
import Derived.Test.YtdjbpnpfgabdjaaPHandHearsx0
import Derived.Test.YtdjbpnpfgabdjaaPHandHearsx1
import Derived.Test.YtdjbpnpfgabdjaaPHandHearsx3
import Derived.Test.YtdjbpnpfgabdjaaPHandHearsx4
import Derived.Test.YtdjbpnpfgabdjaaPHandHearsx5
namespace Go.Proofs.Ytdjbpnpfgabdjaa.PHandHears
open Go.RowKit Go.Proofs.YtdjbpnpfgabdjaaW.PrintWords Go.Proofs.YtdjbpnpfgabdjaaW.PrintLast Go.Proofs.YtdjbpnpfgabdjaaW.PrintMore
attribute [local go_sem] max2_int min2_int max_two min_two max_three min_three max_four min_four   -- for this text's walks alone
set_option linter.unusedVariables false
set_option linter.unusedSimpArgs false

attribute [local go_sem high] eqA23
/-! ### withylaw16_HandHears: function 3 -/
def withylaw16_HandHears.j0 : Nat → Int → Int → Bool → Bool → Int → Bool → Int → Int → Int → Bool → Int → Int → Int → Bool → Option (Bool)
  | 0, _, _, _, _, _, _, _, _, _, _, _, _, _, _ => none
  | k + 1, x1, x2, x8, x9, x10, x93, x152000, x152001, x152002, x152003, x160000, x160001, x160002, x160003 => if x93 = true then (some false) else ((withyref16_Limit.f x2).bind fun t175 => (if t175 = true then ((withyref16_Hello.f k x152000 x152001 x152002 x152003 x1 x2).bind fun bt176 => (if x10 = 0 then (if (x160000 == bt176.1 && (x160001 == bt176.2.1 && (x160002 == bt176.2.2.1 && (x160003 == bt176.2.2.2.1)))) = true then (if (x8 == bt176.2.2.2.2.1) = true then (if (x9 == bt176.2.2.2.2.2) = true then (if x160000 ≥ x152000 then (if x160002 ≥ x152002 then ((withylaw16_awake.f k).bind fun t183 => (some t183)) else (some false)) else (some false)) else (some false)) else (some false)) else (some false)) else (some false))) else (if x10 = 1 then (if x8 = true then (some false) else (if x9 = true then (some false) else (if (x160000 == 0 && (x160001 == 0 && (x160002 == 0 && (!x160003)))) = true then ((withylaw16_awake.f k).bind fun t184 => (some t184)) else (some false)))) else (some false))))
def withylaw16_HandHears.f (k : Nat) (a0_0 : Int) (a0_1 : Int) (a0_2 : Int) (a0_3 : Bool) (a1 : Int) (a2 : Int) : Option (Bool) := (hand_Hello.f k a0_0 a0_1 a0_2 a0_3 a1 a2).bind fun bt152 => ((hand_Welcome.f a0_0 a0_1 a0_2 a0_3 a1).bind fun bt160 => ((withyref16_May.f k a0_0 a0_1 a0_2 a0_3).bind fun t167 => (if t167 = true then ((withyref16_Welcome.f a0_0 a0_1 a0_2 a0_3 a1).bind fun bt169 => (if bt160.2.2.2.2.2 = 0 then (if (!(bt160.1 == bt169.1) || (!(bt160.2.1 == bt169.2.1) || (!(bt160.2.2.1 == bt169.2.2.1) || (!(bt160.2.2.2.1 == bt169.2.2.2.1))))) = true then (withylaw16_HandHears.j0 k a1 a2 bt152.2.2.2.2.1 bt152.2.2.2.2.2.1 bt152.2.2.2.2.2.2 true a0_0 a0_1 a0_2 a0_3 bt152.1 bt152.2.1 bt152.2.2.1 bt152.2.2.2.1) else (if (bt160.2.2.2.2.1 != bt169.2.2.2.2) = true then (withylaw16_HandHears.j0 k a1 a2 bt152.2.2.2.2.1 bt152.2.2.2.2.2.1 bt152.2.2.2.2.2.2 true a0_0 a0_1 a0_2 a0_3 bt152.1 bt152.2.1 bt152.2.2.1 bt152.2.2.2.1) else (withylaw16_HandHears.j0 k a1 a2 bt152.2.2.2.2.1 bt152.2.2.2.2.2.1 bt152.2.2.2.2.2.2 (decide (bt160.1 < a0_0)) a0_0 a0_1 a0_2 a0_3 bt152.1 bt152.2.1 bt152.2.2.1 bt152.2.2.2.1))) else (withylaw16_HandHears.j0 k a1 a2 bt152.2.2.2.2.1 bt152.2.2.2.2.2.1 bt152.2.2.2.2.2.2 true a0_0 a0_1 a0_2 a0_3 bt152.1 bt152.2.1 bt152.2.2.1 bt152.2.2.2.1))) else (if bt152.2.2.2.2.2.2 = 1 then (if bt160.2.2.2.2.2 = 1 then (if bt152.2.2.2.2.1 = true then (some false) else (if bt152.2.2.2.2.2.1 = true then (some false) else (if bt160.2.2.2.2.1 = true then (some false) else (if (bt152.1 == 0 && (bt152.2.1 == 0 && (bt152.2.2.1 == 0 && (!bt152.2.2.2.1)))) = true then (if (bt160.1 == 0 && (bt160.2.1 == 0 && (bt160.2.2.1 == 0 && (!bt160.2.2.2.1)))) = true then ((withylaw16_awake.f k).bind fun t168 => (some t168)) else (some false)) else (some false))))) else (some false)) else (some false)))))
theorem withylaw16_HandHears.mono_l : ∀ k, (∀ y0 y1 y2 y3 y4 y5 y6 y7 y8 y9 y10 y11 y12 y13, LeO (withylaw16_HandHears.j0 k y0 y1 y2 y3 y4 y5 y6 y7 y8 y9 y10 y11 y12 y13) (withylaw16_HandHears.j0 (k + 1) y0 y1 y2 y3 y4 y5 y6 y7 y8 y9 y10 y11 y12 y13))
  | 0 => fun _ _ _ _ _ _ _ _ _ _ _ _ _ _ r h => by simp [withylaw16_HandHears.j0] at h
  | k + 1 => by
    have ih0 := withylaw16_HandHears.mono_l k
    · intro y0 y1 y2 y3 y4 y5 y6 y7 y8 y9 y10 y11 y12 y13
      unfold withylaw16_HandHears.j0
      repeat' first
      | (with_reducible exact ih0 _ _ _ _ _ _ _ _ _ _ _ _ _ _)
      | (with_reducible exact hand_Hello.mono _ _ _ _ _ _ _)
      | (with_reducible exact withylaw16_awake.mono _)
      | (with_reducible exact withyref16_Hello.mono _ _ _ _ _ _ _)
      | (with_reducible exact withyref16_May.mono _ _ _ _ _)
      | (with_reducible exact LeO.refl _)
      | (with_reducible exact LeO.none _)
      | (with_reducible refine LeO.ite ?_ ?_)
      | (with_reducible refine LeO.bind ?_ (fun _ => ?_))
      | exact ih0 _ _ _ _ _ _ _ _ _ _ _ _ _ _
      | exact hand_Hello.mono _ _ _ _ _ _ _
      | exact withylaw16_awake.mono _
      | exact withyref16_Hello.mono _ _ _ _ _ _ _
      | exact withyref16_May.mono _ _ _ _ _
      | exact LeO.none _
      | refine LeO.ite ?_ ?_
      | refine LeO.bind ?_ (fun _ => ?_)
theorem withylaw16_HandHears.mono : ∀ a0 a1 a2 a3 a4 a5 k, LeO (withylaw16_HandHears.f k a0 a1 a2 a3 a4 a5) (withylaw16_HandHears.f (k + 1) a0 a1 a2 a3 a4 a5) := by
  intro a0 a1 a2 a3 a4 a5 k
  have ih0 := withylaw16_HandHears.mono_l k
  unfold withylaw16_HandHears.f
  repeat' first
      | (with_reducible exact ih0 _ _ _ _ _ _ _ _ _ _ _ _ _ _)
      | (with_reducible exact hand_Hello.mono _ _ _ _ _ _ _)
      | (with_reducible exact withylaw16_awake.mono _)
      | (with_reducible exact withyref16_Hello.mono _ _ _ _ _ _ _)
      | (with_reducible exact withyref16_May.mono _ _ _ _ _)
      | (with_reducible exact LeO.refl _)
      | (with_reducible exact LeO.none _)
      | (with_reducible refine LeO.ite ?_ ?_)
      | (with_reducible refine LeO.bind ?_ (fun _ => ?_))
      | exact ih0 _ _ _ _ _ _ _ _ _ _ _ _ _ _
      | exact hand_Hello.mono _ _ _ _ _ _ _
      | exact withylaw16_awake.mono _
      | exact withyref16_Hello.mono _ _ _ _ _ _ _
      | exact withyref16_May.mono _ _ _ _ _
      | exact LeO.none _
      | refine LeO.ite ?_ ?_
      | refine LeO.bind ?_ (fun _ => ?_)
set_option maxHeartbeats 8000000 in
set_option maxRecDepth 100000 in
theorem withylaw16_HandHears.calls (k : Nat) (a0_0 : Int) (a0_1 : Int) (a0_2 : Int) (a0_3 : Bool) (a1 : Int) (a2 : Int) (r : Bool) (w : World) (h : withylaw16_HandHears.f k a0_0 a0_1 a0_2 a0_3 a1 a2 = some r) (hr_ : r = true) :
    Calls Try.prog 3 #[.agg #[.int .i64 a0_0, .int .i64 a0_1, .int .i64 a0_2, .bool a0_3], .int .i64 a1, .int .i64 a2] w fun e w' => e = .returned (.bool r) ∧ Below w.heap.size w w' := by
  have hu23 := Try.underlying23
  have HB := Aside0.mk (Below.refl w.heap.size w)
  have H : ((hand_Hello.f k a0_0 a0_1 a0_2 a0_3 a1 a2).bind fun bt152 => ((hand_Welcome.f a0_0 a0_1 a0_2 a0_3 a1).bind fun bt160 => ((withyref16_May.f k a0_0 a0_1 a0_2 a0_3).bind fun t167 => (if t167 = true then ((withyref16_Welcome.f a0_0 a0_1 a0_2 a0_3 a1).bind fun bt169 => (if bt160.2.2.2.2.2 = 0 then (if (!(bt160.1 == bt169.1) || (!(bt160.2.1 == bt169.2.1) || (!(bt160.2.2.1 == bt169.2.2.1) || (!(bt160.2.2.2.1 == bt169.2.2.2.1))))) = true then (withylaw16_HandHears.j0 k a1 a2 bt152.2.2.2.2.1 bt152.2.2.2.2.2.1 bt152.2.2.2.2.2.2 true a0_0 a0_1 a0_2 a0_3 bt152.1 bt152.2.1 bt152.2.2.1 bt152.2.2.2.1) else (if (bt160.2.2.2.2.1 != bt169.2.2.2.2) = true then (withylaw16_HandHears.j0 k a1 a2 bt152.2.2.2.2.1 bt152.2.2.2.2.2.1 bt152.2.2.2.2.2.2 true a0_0 a0_1 a0_2 a0_3 bt152.1 bt152.2.1 bt152.2.2.1 bt152.2.2.2.1) else (withylaw16_HandHears.j0 k a1 a2 bt152.2.2.2.2.1 bt152.2.2.2.2.2.1 bt152.2.2.2.2.2.2 (decide (bt160.1 < a0_0)) a0_0 a0_1 a0_2 a0_3 bt152.1 bt152.2.1 bt152.2.2.1 bt152.2.2.2.1))) else (withylaw16_HandHears.j0 k a1 a2 bt152.2.2.2.2.1 bt152.2.2.2.2.2.1 bt152.2.2.2.2.2.2 true a0_0 a0_1 a0_2 a0_3 bt152.1 bt152.2.1 bt152.2.2.1 bt152.2.2.2.1))) else (if bt152.2.2.2.2.2.2 = 1 then (if bt160.2.2.2.2.2 = 1 then (if bt152.2.2.2.2.1 = true then (some false) else (if bt152.2.2.2.2.2.1 = true then (some false) else (if bt160.2.2.2.2.1 = true then (some false) else (if (bt152.1 == 0 && (bt152.2.1 == 0 && (bt152.2.2.1 == 0 && (!bt152.2.2.2.1)))) = true then (if (bt160.1 == 0 && (bt160.2.1 == 0 && (bt160.2.2.1 == 0 && (!bt160.2.2.2.1)))) = true then ((withylaw16_awake.f k).bind fun t168 => (some t168)) else (some false)) else (some false))))) else (some false)) else (some false)))))) = some r := h
  clear h
  have HR_ := Aside0.mk hr_
  clear hr_
  replace H := Option.bind_eq_some_iff.mp H
  obtain ⟨⟨t152, t153, t154, t155, t156, t157, t158⟩, A40, H⟩ := H
  replace H : ((hand_Welcome.f a0_0 a0_1 a0_2 a0_3 a1).bind fun bt160 => ((withyref16_May.f k a0_0 a0_1 a0_2 a0_3).bind fun t167 => (if t167 = true then ((withyref16_Welcome.f a0_0 a0_1 a0_2 a0_3 a1).bind fun bt169 => (if bt160.2.2.2.2.2 = 0 then (if (!(bt160.1 == bt169.1) || (!(bt160.2.1 == bt169.2.1) || (!(bt160.2.2.1 == bt169.2.2.1) || (!(bt160.2.2.2.1 == bt169.2.2.2.1))))) = true then (withylaw16_HandHears.j0 k a1 a2 t156 t157 t158 true a0_0 a0_1 a0_2 a0_3 t152 t153 t154 t155) else (if (bt160.2.2.2.2.1 != bt169.2.2.2.2) = true then (withylaw16_HandHears.j0 k a1 a2 t156 t157 t158 true a0_0 a0_1 a0_2 a0_3 t152 t153 t154 t155) else (withylaw16_HandHears.j0 k a1 a2 t156 t157 t158 (decide (bt160.1 < a0_0)) a0_0 a0_1 a0_2 a0_3 t152 t153 t154 t155))) else (withylaw16_HandHears.j0 k a1 a2 t156 t157 t158 true a0_0 a0_1 a0_2 a0_3 t152 t153 t154 t155))) else (if t158 = 1 then (if bt160.2.2.2.2.2 = 1 then (if t156 = true then (some false) else (if t157 = true then (some false) else (if bt160.2.2.2.2.1 = true then (some false) else (if (t152 == 0 && (t153 == 0 && (t154 == 0 && (!t155)))) = true then (if (bt160.1 == 0 && (bt160.2.1 == 0 && (bt160.2.2.1 == 0 && (!bt160.2.2.2.1)))) = true then ((withylaw16_awake.f k).bind fun t168 => (some t168)) else (some false)) else (some false))))) else (some false)) else (some false))))) = some r := H
  have A4 := Aside0.mk A40
  clear A40
  replace H := Option.bind_eq_some_iff.mp H
  obtain ⟨⟨t160, t161, t162, t163, t164, t165⟩, A50, H⟩ := H
  replace H : ((withyref16_May.f k a0_0 a0_1 a0_2 a0_3).bind fun t167 => (if t167 = true then ((withyref16_Welcome.f a0_0 a0_1 a0_2 a0_3 a1).bind fun bt169 => (if t165 = 0 then (if (!(t160 == bt169.1) || (!(t161 == bt169.2.1) || (!(t162 == bt169.2.2.1) || (!(t163 == bt169.2.2.2.1))))) = true then (withylaw16_HandHears.j0 k a1 a2 t156 t157 t158 true a0_0 a0_1 a0_2 a0_3 t152 t153 t154 t155) else (if (t164 != bt169.2.2.2.2) = true then (withylaw16_HandHears.j0 k a1 a2 t156 t157 t158 true a0_0 a0_1 a0_2 a0_3 t152 t153 t154 t155) else (withylaw16_HandHears.j0 k a1 a2 t156 t157 t158 (decide (t160 < a0_0)) a0_0 a0_1 a0_2 a0_3 t152 t153 t154 t155))) else (withylaw16_HandHears.j0 k a1 a2 t156 t157 t158 true a0_0 a0_1 a0_2 a0_3 t152 t153 t154 t155))) else (if t158 = 1 then (if t165 = 1 then (if t156 = true then (some false) else (if t157 = true then (some false) else (if t164 = true then (some false) else (if (t152 == 0 && (t153 == 0 && (t154 == 0 && (!t155)))) = true then (if (t160 == 0 && (t161 == 0 && (t162 == 0 && (!t163)))) = true then ((withylaw16_awake.f k).bind fun t168 => (some t168)) else (some false)) else (some false))))) else (some false)) else (some false)))) = some r := H
  have A5 := Aside0.mk A50
  clear A50
  replace H := Option.bind_eq_some_iff.mp H
  obtain ⟨t167, A60, H⟩ := H
  replace H : (if t167 = true then ((withyref16_Welcome.f a0_0 a0_1 a0_2 a0_3 a1).bind fun bt169 => (if t165 = 0 then (if (!(t160 == bt169.1) || (!(t161 == bt169.2.1) || (!(t162 == bt169.2.2.1) || (!(t163 == bt169.2.2.2.1))))) = true then (withylaw16_HandHears.j0 k a1 a2 t156 t157 t158 true a0_0 a0_1 a0_2 a0_3 t152 t153 t154 t155) else (if (t164 != bt169.2.2.2.2) = true then (withylaw16_HandHears.j0 k a1 a2 t156 t157 t158 true a0_0 a0_1 a0_2 a0_3 t152 t153 t154 t155) else (withylaw16_HandHears.j0 k a1 a2 t156 t157 t158 (decide (t160 < a0_0)) a0_0 a0_1 a0_2 a0_3 t152 t153 t154 t155))) else (withylaw16_HandHears.j0 k a1 a2 t156 t157 t158 true a0_0 a0_1 a0_2 a0_3 t152 t153 t154 t155))) else (if t158 = 1 then (if t165 = 1 then (if t156 = true then (some false) else (if t157 = true then (some false) else (if t164 = true then (some false) else (if (t152 == 0 && (t153 == 0 && (t154 == 0 && (!t155)))) = true then (if (t160 == 0 && (t161 == 0 && (t162 == 0 && (!t163)))) = true then ((withylaw16_awake.f k).bind fun t168 => (some t168)) else (some false)) else (some false))))) else (some false)) else (some false))) = some r := H
  have A6 := Aside0.mk A60
  clear A60
  by_cases c7 : t167 = true
  · subst c7
    have H1 : ((withyref16_Welcome.f a0_0 a0_1 a0_2 a0_3 a1).bind fun bt169 => (if t165 = 0 then (if (!(t160 == bt169.1) || (!(t161 == bt169.2.1) || (!(t162 == bt169.2.2.1) || (!(t163 == bt169.2.2.2.1))))) = true then (withylaw16_HandHears.j0 k a1 a2 t156 t157 t158 true a0_0 a0_1 a0_2 a0_3 t152 t153 t154 t155) else (if (t164 != bt169.2.2.2.2) = true then (withylaw16_HandHears.j0 k a1 a2 t156 t157 t158 true a0_0 a0_1 a0_2 a0_3 t152 t153 t154 t155) else (withylaw16_HandHears.j0 k a1 a2 t156 t157 t158 (decide (t160 < a0_0)) a0_0 a0_1 a0_2 a0_3 t152 t153 t154 t155))) else (withylaw16_HandHears.j0 k a1 a2 t156 t157 t158 true a0_0 a0_1 a0_2 a0_3 t152 t153 t154 t155))) = some r := by rw [if_pos rfl] at H; exact H
    clear H
    have H := H1
    clear H1
    replace H := Option.bind_eq_some_iff.mp H
    obtain ⟨⟨t169, t170, t171, t172, t173⟩, A80, H⟩ := H
    replace H : (if t165 = 0 then (if (!(t160 == t169) || (!(t161 == t170) || (!(t162 == t171) || (!(t163 == t172))))) = true then (withylaw16_HandHears.j0 k a1 a2 t156 t157 t158 true a0_0 a0_1 a0_2 a0_3 t152 t153 t154 t155) else (if (t164 != t173) = true then (withylaw16_HandHears.j0 k a1 a2 t156 t157 t158 true a0_0 a0_1 a0_2 a0_3 t152 t153 t154 t155) else (withylaw16_HandHears.j0 k a1 a2 t156 t157 t158 (decide (t160 < a0_0)) a0_0 a0_1 a0_2 a0_3 t152 t153 t154 t155))) else (withylaw16_HandHears.j0 k a1 a2 t156 t157 t158 true a0_0 a0_1 a0_2 a0_3 t152 t153 t154 t155)) = some r := H
    have A8 := Aside0.mk A80
    clear A80
    have HC9 := Aside0.mk H
    clear H
    go_enter Try.func3, Try.ntmps3
    go_upto_region 6 with (first | ((with_reducible refine gate_dst (N := 3) rfl ?_); refine box_event ?hg (N := 3) ?hd (cs := #[.int .i64 a0_0, .int .i64 a0_1, .int .i64 a0_2, .bool a0_3]) (t := 23) ?hr ?_; (case hd => rfl); (case hg => rfl); (case hr => first | (go_simp; done) | (go_simp; rfl)); intro gb151 hg w10 hbox hb; have n0_ := Aside0.mk (below_step (by repeat (first | (with_reducible first | exact HB.out | apply below_alloc | apply pw_below_drewN | apply below_drew1) | exact HB.out)) hb); have n1_ := Aside0.mk (hbox); have n2_ := Aside0.mk ((by rw [hg]; exact (below_size (by repeat (first | (with_reducible first | exact HB.out | apply below_alloc | apply pw_below_drewN | apply below_drew1) | exact HB.out))) : w.heap.size ≤ gb151)); have n3_ := Aside0.mk ((by rw [hg]; exact (below_size (by repeat (first | (with_reducible first | exact HB.out | apply below_alloc | apply pw_below_drewN | apply below_drew1) | exact HB.out))) : w.heap.size ≤ gb151)); clear HB; have HB := n0_; have BK151 := n1_; have GW151 := n2_; have GE151 := n3_; clear n0_ n1_ n2_ n3_; clear hb hbox hg; have hcz11_0 : w10.cell? ⟨gb151, 0, none⟩ = some (.int .i64 a0_0) := (blk_cell BK151.out 0).trans rfl; have hcz11_1 : w10.cell? ⟨gb151, 1, none⟩ = some (.int .i64 a0_1) := (blk_cell BK151.out 1).trans rfl; have hcz11_2 : w10.cell? ⟨gb151, 2, none⟩ = some (.int .i64 a0_2) := (blk_cell BK151.out 2).trans rfl; have hcz11_3 : w10.cell? ⟨gb151, 3, none⟩ = some (.bool a0_3) := (blk_cell BK151.out 3).trans rfl; have hfz11_0 := blk_frozen BK151.out 0; have hfz11_1 := blk_frozen BK151.out 1; have hfz11_2 := blk_frozen BK151.out 2; have hfz11_3 := blk_frozen BK151.out 3) | ((with_reducible refine gate_callee (f := 8) rfl ?_); refine goesL_ (some 23) rfl rfl Try.func8 (by kernel_rfl) rfl #[.agg #[.int .i64 a0_0, .int .i64 a0_1, .int .i64 a0_2, .bool a0_3], .int .i64 a1, .int .i64 a2] rfl (by (try simp only [List.map_toArray, List.map_cons, List.map_nil]); first | done | rfl | (simp only [List.length_drop, List.length_take]; rfl)) ?_; (with_reducible refine (hand_Hello.calls k a0_0 a0_1 a0_2 a0_3 a1 a2 t152 t153 t154 t155 t156 t157 t158 _ A4.out).mono ?_); rintro e w12 ⟨rfl, hb⟩; refine ⟨_, rfl, ?_⟩; have n0_ := Aside0.mk (blk_below (g := gb151) (o := .cells #[.int .i64 a0_0, .int .i64 a0_1, .int .i64 a0_2, .bool a0_3] 23 (0, 0)) (by (with_reducible repeat (first | refine blk_drewN ?_ _ | refine blk_drew ?_ | refine blk_alloc ?_ _)); exact BK151.out) hb); have n1_ := Aside0.mk (below_step (by repeat (first | (with_reducible first | exact HB.out | apply below_alloc | apply pw_below_drewN | apply below_drew1 | refine below_set ?_ GE151.out) | exact HB.out)) hb); clear BK151; clear HB; have BK151 := n0_; have HB := n1_; clear n0_ n1_; (try clear hb); (try clear hb2); (try clear hk); (try clear hi)) | ((with_reducible refine gate_dst (N := 7) rfl ?_); refine box_event ?hg (N := 7) ?hd (cs := #[.int .i64 0, .int .i64 0, .int .i64 0, .bool false]) (t := 23) ?hr ?_; (case hd => rfl); (case hg => rfl); (case hr => first | (go_simp; done) | (go_simp; rfl)); intro gb159 hg w13 hbox hb; have n0_ := Aside0.mk (blk_below (g := gb151) (o := .cells #[.int .i64 a0_0, .int .i64 a0_1, .int .i64 a0_2, .bool a0_3] 23 (0, 0)) (by (with_reducible repeat (first | refine blk_drewN ?_ _ | refine blk_drew ?_ | refine blk_alloc ?_ _)); exact BK151.out) hb); have n1_ := Aside0.mk (below_step (by repeat (first | (with_reducible first | exact HB.out | apply below_alloc | apply pw_below_drewN | apply below_drew1 | refine below_set ?_ GE151.out) | exact HB.out)) hb); have n2_ := Aside0.mk (hbox); have n3_ := Aside0.mk ((by rw [hg]; exact (below_size (by repeat (first | (with_reducible first | exact HB.out | apply below_alloc | apply pw_below_drewN | apply below_drew1 | refine below_set ?_ GE151.out) | exact HB.out))) : w.heap.size ≤ gb159)); have n4_ := Aside0.mk ((by rw [hg]; exact (below_size (by repeat (first | (with_reducible first | exact HB.out | apply below_alloc | apply pw_below_drewN | apply below_drew1 | refine below_set ?_ GE151.out) | exact HB.out))) : w.heap.size ≤ gb159)); have n5_ := Aside0.mk ((by rw [hg]; exact Nat.ne_of_lt (blk_lt (g := gb151) (o := .cells #[.int .i64 a0_0, .int .i64 a0_1, .int .i64 a0_2, .bool a0_3] 23 (0, 0)) (by (with_reducible repeat (first | refine blk_drewN ?_ _ | refine blk_drew ?_ | refine blk_alloc ?_ _)); exact BK151.out)) : gb151 ≠ gb159)); have n6_ := Aside0.mk ((by rw [hg]; exact Nat.ne_of_gt (blk_lt (g := gb151) (o := .cells #[.int .i64 a0_0, .int .i64 a0_1, .int .i64 a0_2, .bool a0_3] 23 (0, 0)) (by (with_reducible repeat (first | refine blk_drewN ?_ _ | refine blk_drew ?_ | refine blk_alloc ?_ _)); exact BK151.out)) : gb159 ≠ gb151)); clear BK151; clear HB; have BK151 := n0_; have HB := n1_; have BK159 := n2_; have GW159 := n3_; have GE159 := n4_; have NB151_159 := n5_; have NB159_151 := n6_; clear n0_ n1_ n2_ n3_ n4_ n5_ n6_; clear hb hbox hg; have hnb14 := NB159_151.out; have hnc14 := NB151_159.out; have hcz15_0 : w13.cell? ⟨gb159, 0, none⟩ = some (.int .i64 0) := (blk_cell BK159.out 0).trans rfl; have hcz15_1 : w13.cell? ⟨gb159, 1, none⟩ = some (.int .i64 0) := (blk_cell BK159.out 1).trans rfl; have hcz15_2 : w13.cell? ⟨gb159, 2, none⟩ = some (.int .i64 0) := (blk_cell BK159.out 2).trans rfl; have hcz15_3 : w13.cell? ⟨gb159, 3, none⟩ = some (.bool false) := (blk_cell BK159.out 3).trans rfl; have hfz15_0 := blk_frozen BK159.out 0; have hfz15_1 := blk_frozen BK159.out 1; have hfz15_2 := blk_frozen BK159.out 2; have hfz15_3 := blk_frozen BK159.out 3; have hcz16_0 : w13.cell? ⟨gb151, 0, none⟩ = some (.int .i64 a0_0) := (blk_cell BK151.out 0).trans rfl; have hcz16_1 : w13.cell? ⟨gb151, 1, none⟩ = some (.int .i64 a0_1) := (blk_cell BK151.out 1).trans rfl; have hcz16_2 : w13.cell? ⟨gb151, 2, none⟩ = some (.int .i64 a0_2) := (blk_cell BK151.out 2).trans rfl; have hcz16_3 : w13.cell? ⟨gb151, 3, none⟩ = some (.bool a0_3) := (blk_cell BK151.out 3).trans rfl; have hfz16_0 := blk_frozen BK151.out 0; have hfz16_1 := blk_frozen BK151.out 1; have hfz16_2 := blk_frozen BK151.out 2; have hfz16_3 := blk_frozen BK151.out 3) | ((with_reducible refine gate_callee (f := 9) rfl ?_); refine goesL_ (some 31) rfl rfl Try.func9 (by kernel_rfl) rfl #[.agg #[.int .i64 a0_0, .int .i64 a0_1, .int .i64 a0_2, .bool a0_3], .int .i64 a1] rfl (by (try simp only [List.map_toArray, List.map_cons, List.map_nil]); first | done | rfl | (simp only [List.length_drop, List.length_take]; rfl)) ?_; (with_reducible refine (hand_Welcome.calls a0_0 a0_1 a0_2 a0_3 a1 t160 t161 t162 t163 t164 t165 _ A5.out).mono ?_); rintro e w17 ⟨rfl, hb⟩; refine ⟨_, rfl, ?_⟩; have n0_ := Aside0.mk (blk_below (g := gb151) (o := .cells #[.int .i64 a0_0, .int .i64 a0_1, .int .i64 a0_2, .bool a0_3] 23 (0, 0)) (by (with_reducible repeat (first | refine blk_drewN ?_ _ | refine blk_drew ?_ | refine blk_alloc ?_ _)); refine blk_far ?_ NB151_159.out _; (with_reducible repeat (first | refine blk_drewN ?_ _ | refine blk_drew ?_ | refine blk_alloc ?_ _)); refine blk_far ?_ NB151_159.out _; (with_reducible repeat (first | refine blk_drewN ?_ _ | refine blk_drew ?_ | refine blk_alloc ?_ _)); refine blk_far ?_ NB151_159.out _; (with_reducible repeat (first | refine blk_drewN ?_ _ | refine blk_drew ?_ | refine blk_alloc ?_ _)); refine blk_far ?_ NB151_159.out _; (with_reducible repeat (first | refine blk_drewN ?_ _ | refine blk_drew ?_ | refine blk_alloc ?_ _)); exact BK151.out) hb); have n1_ := Aside0.mk (blk_below (g := gb159) (o := .cells #[.int .i64 t152, .int .i64 t153, .int .i64 t154, .bool t155] 23 (0, 0)) (by (with_reducible repeat (first | refine blk_drewN ?_ _ | refine blk_drew ?_ | refine blk_alloc ?_ _)); refine blk_put (cs := #[.int .i64 t152, .int .i64 t153, .int .i64 t154, .bool false]) ?_ 3 _ rfl; (with_reducible repeat (first | refine blk_drewN ?_ _ | refine blk_drew ?_ | refine blk_alloc ?_ _)); refine blk_put (cs := #[.int .i64 t152, .int .i64 t153, .int .i64 0, .bool false]) ?_ 2 _ rfl; (with_reducible repeat (first | refine blk_drewN ?_ _ | refine blk_drew ?_ | refine blk_alloc ?_ _)); refine blk_put (cs := #[.int .i64 t152, .int .i64 0, .int .i64 0, .bool false]) ?_ 1 _ rfl; (with_reducible repeat (first | refine blk_drewN ?_ _ | refine blk_drew ?_ | refine blk_alloc ?_ _)); refine blk_put (cs := #[.int .i64 0, .int .i64 0, .int .i64 0, .bool false]) ?_ 0 _ rfl; (with_reducible repeat (first | refine blk_drewN ?_ _ | refine blk_drew ?_ | refine blk_alloc ?_ _)); exact BK159.out) hb); have n2_ := Aside0.mk (below_step (by repeat (first | (with_reducible first | exact HB.out | apply below_alloc | apply pw_below_drewN | apply below_drew1 | refine below_set ?_ GE151.out | refine below_set ?_ GE159.out) | exact HB.out)) hb); clear BK151; clear BK159; clear HB; have BK151 := n0_; have BK159 := n1_; have HB := n2_; clear n0_ n1_ n2_; (try clear hb); (try clear hb2); (try clear hk); (try clear hi)) | ((with_reducible refine gate_dst (N := 11) rfl ?_); refine box_event ?hg (N := 11) ?hd (cs := #[.int .i64 0, .int .i64 0, .int .i64 0, .bool false]) (t := 23) ?hr ?_; (case hd => rfl); (case hg => rfl); (case hr => first | (go_simp; done) | (go_simp; rfl)); intro gb166 hg w18 hbox hb; have n0_ := Aside0.mk (blk_below (g := gb151) (o := .cells #[.int .i64 a0_0, .int .i64 a0_1, .int .i64 a0_2, .bool a0_3] 23 (0, 0)) (by (with_reducible repeat (first | refine blk_drewN ?_ _ | refine blk_drew ?_ | refine blk_alloc ?_ _)); exact BK151.out) hb); have n1_ := Aside0.mk (blk_below (g := gb159) (o := .cells #[.int .i64 t152, .int .i64 t153, .int .i64 t154, .bool t155] 23 (0, 0)) (by (with_reducible repeat (first | refine blk_drewN ?_ _ | refine blk_drew ?_ | refine blk_alloc ?_ _)); exact BK159.out) hb); have n2_ := Aside0.mk (below_step (by repeat (first | (with_reducible first | exact HB.out | apply below_alloc | apply pw_below_drewN | apply below_drew1 | refine below_set ?_ GE151.out | refine below_set ?_ GE159.out) | exact HB.out)) hb); have n3_ := Aside0.mk (hbox); have n4_ := Aside0.mk ((by rw [hg]; exact (below_size (by repeat (first | (with_reducible first | exact HB.out | apply below_alloc | apply pw_below_drewN | apply below_drew1 | refine below_set ?_ GE151.out | refine below_set ?_ GE159.out) | exact HB.out))) : w.heap.size ≤ gb166)); have n5_ := Aside0.mk ((by rw [hg]; exact (below_size (by repeat (first | (with_reducible first | exact HB.out | apply below_alloc | apply pw_below_drewN | apply below_drew1 | refine below_set ?_ GE151.out | refine below_set ?_ GE159.out) | exact HB.out))) : w.heap.size ≤ gb166)); have n6_ := Aside0.mk ((by rw [hg]; exact Nat.ne_of_lt (blk_lt (g := gb151) (o := .cells #[.int .i64 a0_0, .int .i64 a0_1, .int .i64 a0_2, .bool a0_3] 23 (0, 0)) (by (with_reducible repeat (first | refine blk_drewN ?_ _ | refine blk_drew ?_ | refine blk_alloc ?_ _)); exact BK151.out)) : gb151 ≠ gb166)); have n7_ := Aside0.mk ((by rw [hg]; exact Nat.ne_of_gt (blk_lt (g := gb151) (o := .cells #[.int .i64 a0_0, .int .i64 a0_1, .int .i64 a0_2, .bool a0_3] 23 (0, 0)) (by (with_reducible repeat (first | refine blk_drewN ?_ _ | refine blk_drew ?_ | refine blk_alloc ?_ _)); exact BK151.out)) : gb166 ≠ gb151)); have n8_ := Aside0.mk ((by rw [hg]; exact Nat.ne_of_lt (blk_lt (g := gb159) (o := .cells #[.int .i64 t152, .int .i64 t153, .int .i64 t154, .bool t155] 23 (0, 0)) (by (with_reducible repeat (first | refine blk_drewN ?_ _ | refine blk_drew ?_ | refine blk_alloc ?_ _)); exact BK159.out)) : gb159 ≠ gb166)); have n9_ := Aside0.mk ((by rw [hg]; exact Nat.ne_of_gt (blk_lt (g := gb159) (o := .cells #[.int .i64 t152, .int .i64 t153, .int .i64 t154, .bool t155] 23 (0, 0)) (by (with_reducible repeat (first | refine blk_drewN ?_ _ | refine blk_drew ?_ | refine blk_alloc ?_ _)); exact BK159.out)) : gb166 ≠ gb159)); clear BK151; clear BK159; clear HB; have BK151 := n0_; have BK159 := n1_; have HB := n2_; have BK166 := n3_; have GW166 := n4_; have GE166 := n5_; have NB151_166 := n6_; have NB166_151 := n7_; have NB159_166 := n8_; have NB166_159 := n9_; clear n0_ n1_ n2_ n3_ n4_ n5_ n6_ n7_ n8_ n9_; clear hb hbox hg; have hnb19 := NB166_151.out; have hnc19 := NB151_166.out; have hnb20 := NB166_159.out; have hnc20 := NB159_166.out; have hcz21_0 : w18.cell? ⟨gb166, 0, none⟩ = some (.int .i64 0) := (blk_cell BK166.out 0).trans rfl; have hcz21_1 : w18.cell? ⟨gb166, 1, none⟩ = some (.int .i64 0) := (blk_cell BK166.out 1).trans rfl; have hcz21_2 : w18.cell? ⟨gb166, 2, none⟩ = some (.int .i64 0) := (blk_cell BK166.out 2).trans rfl; have hcz21_3 : w18.cell? ⟨gb166, 3, none⟩ = some (.bool false) := (blk_cell BK166.out 3).trans rfl; have hfz21_0 := blk_frozen BK166.out 0; have hfz21_1 := blk_frozen BK166.out 1; have hfz21_2 := blk_frozen BK166.out 2; have hfz21_3 := blk_frozen BK166.out 3; have hcz22_0 : w18.cell? ⟨gb151, 0, none⟩ = some (.int .i64 a0_0) := (blk_cell BK151.out 0).trans rfl; have hcz22_1 : w18.cell? ⟨gb151, 1, none⟩ = some (.int .i64 a0_1) := (blk_cell BK151.out 1).trans rfl; have hcz22_2 : w18.cell? ⟨gb151, 2, none⟩ = some (.int .i64 a0_2) := (blk_cell BK151.out 2).trans rfl; have hcz22_3 : w18.cell? ⟨gb151, 3, none⟩ = some (.bool a0_3) := (blk_cell BK151.out 3).trans rfl; have hfz22_0 := blk_frozen BK151.out 0; have hfz22_1 := blk_frozen BK151.out 1; have hfz22_2 := blk_frozen BK151.out 2; have hfz22_3 := blk_frozen BK151.out 3) | ((with_reducible refine gate_callee (f := 10) rfl ?_); refine goesL_ (some 36) rfl rfl Try.func10 (by kernel_rfl) rfl #[.agg #[.int .i64 a0_0, .int .i64 a0_1, .int .i64 a0_2, .bool a0_3]] rfl (by (try simp only [List.map_toArray, List.map_cons, List.map_nil]); first | done | rfl | (simp only [List.length_drop, List.length_take]; rfl)) ?_; (with_reducible refine (withyref16_May.calls k a0_0 a0_1 a0_2 a0_3 true _ A6.out).mono ?_); rintro e w23 ⟨rfl, hb⟩; refine ⟨_, rfl, ?_⟩; have n0_ := Aside0.mk (blk_below (g := gb151) (o := .cells #[.int .i64 a0_0, .int .i64 a0_1, .int .i64 a0_2, .bool a0_3] 23 (0, 0)) (by (with_reducible repeat (first | refine blk_drewN ?_ _ | refine blk_drew ?_ | refine blk_alloc ?_ _)); refine blk_far ?_ NB151_166.out _; (with_reducible repeat (first | refine blk_drewN ?_ _ | refine blk_drew ?_ | refine blk_alloc ?_ _)); refine blk_far ?_ NB151_166.out _; (with_reducible repeat (first | refine blk_drewN ?_ _ | refine blk_drew ?_ | refine blk_alloc ?_ _)); refine blk_far ?_ NB151_166.out _; (with_reducible repeat (first | refine blk_drewN ?_ _ | refine blk_drew ?_ | refine blk_alloc ?_ _)); refine blk_far ?_ NB151_166.out _; (with_reducible repeat (first | refine blk_drewN ?_ _ | refine blk_drew ?_ | refine blk_alloc ?_ _)); exact BK151.out) hb); have n1_ := Aside0.mk (blk_below (g := gb159) (o := .cells #[.int .i64 t152, .int .i64 t153, .int .i64 t154, .bool t155] 23 (0, 0)) (by (with_reducible repeat (first | refine blk_drewN ?_ _ | refine blk_drew ?_ | refine blk_alloc ?_ _)); refine blk_far ?_ NB159_166.out _; (with_reducible repeat (first | refine blk_drewN ?_ _ | refine blk_drew ?_ | refine blk_alloc ?_ _)); refine blk_far ?_ NB159_166.out _; (with_reducible repeat (first | refine blk_drewN ?_ _ | refine blk_drew ?_ | refine blk_alloc ?_ _)); refine blk_far ?_ NB159_166.out _; (with_reducible repeat (first | refine blk_drewN ?_ _ | refine blk_drew ?_ | refine blk_alloc ?_ _)); refine blk_far ?_ NB159_166.out _; (with_reducible repeat (first | refine blk_drewN ?_ _ | refine blk_drew ?_ | refine blk_alloc ?_ _)); exact BK159.out) hb); have n2_ := Aside0.mk (blk_below (g := gb166) (o := .cells #[.int .i64 t160, .int .i64 t161, .int .i64 t162, .bool t163] 23 (0, 0)) (by (with_reducible repeat (first | refine blk_drewN ?_ _ | refine blk_drew ?_ | refine blk_alloc ?_ _)); refine blk_put (cs := #[.int .i64 t160, .int .i64 t161, .int .i64 t162, .bool false]) ?_ 3 _ rfl; (with_reducible repeat (first | refine blk_drewN ?_ _ | refine blk_drew ?_ | refine blk_alloc ?_ _)); refine blk_put (cs := #[.int .i64 t160, .int .i64 t161, .int .i64 0, .bool false]) ?_ 2 _ rfl; (with_reducible repeat (first | refine blk_drewN ?_ _ | refine blk_drew ?_ | refine blk_alloc ?_ _)); refine blk_put (cs := #[.int .i64 t160, .int .i64 0, .int .i64 0, .bool false]) ?_ 1 _ rfl; (with_reducible repeat (first | refine blk_drewN ?_ _ | refine blk_drew ?_ | refine blk_alloc ?_ _)); refine blk_put (cs := #[.int .i64 0, .int .i64 0, .int .i64 0, .bool false]) ?_ 0 _ rfl; (with_reducible repeat (first | refine blk_drewN ?_ _ | refine blk_drew ?_ | refine blk_alloc ?_ _)); exact BK166.out) hb); have n3_ := Aside0.mk (below_step (by repeat (first | (with_reducible first | exact HB.out | apply below_alloc | apply pw_below_drewN | apply below_drew1 | refine below_set ?_ GE151.out | refine below_set ?_ GE159.out | refine below_set ?_ GE166.out) | exact HB.out)) hb); clear BK151; clear BK159; clear BK166; clear HB; have BK151 := n0_; have BK159 := n1_; have BK166 := n2_; have HB := n3_; clear n0_ n1_ n2_ n3_; (try clear hb); (try clear hb2); (try clear hk); (try clear hi); have hcz24_0 : w23.cell? ⟨gb151, 0, none⟩ = some (.int .i64 a0_0) := (blk_cell BK151.out 0).trans rfl; have hcz24_1 : w23.cell? ⟨gb151, 1, none⟩ = some (.int .i64 a0_1) := (blk_cell BK151.out 1).trans rfl; have hcz24_2 : w23.cell? ⟨gb151, 2, none⟩ = some (.int .i64 a0_2) := (blk_cell BK151.out 2).trans rfl; have hcz24_3 : w23.cell? ⟨gb151, 3, none⟩ = some (.bool a0_3) := (blk_cell BK151.out 3).trans rfl; have hfz24_0 := blk_frozen BK151.out 0; have hfz24_1 := blk_frozen BK151.out 1; have hfz24_2 := blk_frozen BK151.out 2; have hfz24_3 := blk_frozen BK151.out 3) | ((with_reducible refine gate_callee (f := 12) rfl ?_); refine goesL_ (some 72) rfl rfl Try.func12 (by kernel_rfl) rfl #[.agg #[.int .i64 a0_0, .int .i64 a0_1, .int .i64 a0_2, .bool a0_3], .int .i64 a1] rfl (by (try simp only [List.map_toArray, List.map_cons, List.map_nil]); first | done | rfl | (simp only [List.length_drop, List.length_take]; rfl)) ?_; (with_reducible refine (withyref16_Welcome.calls a0_0 a0_1 a0_2 a0_3 a1 t169 t170 t171 t172 t173 _ A8.out).mono ?_); rintro e w25 ⟨rfl, hb⟩; refine ⟨_, rfl, ?_⟩; have n0_ := Aside0.mk (blk_below (g := gb151) (o := .cells #[.int .i64 a0_0, .int .i64 a0_1, .int .i64 a0_2, .bool a0_3] 23 (0, 0)) (by (with_reducible repeat (first | refine blk_drewN ?_ _ | refine blk_drew ?_ | refine blk_alloc ?_ _)); exact BK151.out) hb); have n1_ := Aside0.mk (blk_below (g := gb159) (o := .cells #[.int .i64 t152, .int .i64 t153, .int .i64 t154, .bool t155] 23 (0, 0)) (by (with_reducible repeat (first | refine blk_drewN ?_ _ | refine blk_drew ?_ | refine blk_alloc ?_ _)); exact BK159.out) hb); have n2_ := Aside0.mk (blk_below (g := gb166) (o := .cells #[.int .i64 t160, .int .i64 t161, .int .i64 t162, .bool t163] 23 (0, 0)) (by (with_reducible repeat (first | refine blk_drewN ?_ _ | refine blk_drew ?_ | refine blk_alloc ?_ _)); exact BK166.out) hb); have n3_ := Aside0.mk (below_step (by repeat (first | (with_reducible first | exact HB.out | apply below_alloc | apply pw_below_drewN | apply below_drew1 | refine below_set ?_ GE151.out | refine below_set ?_ GE159.out | refine below_set ?_ GE166.out) | exact HB.out)) hb); clear BK151; clear BK159; clear BK166; clear HB; have BK151 := n0_; have BK159 := n1_; have BK166 := n2_; have HB := n3_; clear n0_ n1_ n2_ n3_; (try clear hb); (try clear hb2); (try clear hk); (try clear hi)) | ((with_reducible refine gate_dst (N := 14) rfl ?_); refine box_event ?hg (N := 14) ?hd (cs := #[.int .i64 0, .int .i64 0, .int .i64 0, .bool false]) (t := 23) ?hr ?_; (case hd => rfl); (case hg => rfl); (case hr => first | (go_simp; done) | (go_simp; rfl)); intro gb174 hg w26 hbox hb; have n0_ := Aside0.mk (blk_below (g := gb151) (o := .cells #[.int .i64 a0_0, .int .i64 a0_1, .int .i64 a0_2, .bool a0_3] 23 (0, 0)) (by (with_reducible repeat (first | refine blk_drewN ?_ _ | refine blk_drew ?_ | refine blk_alloc ?_ _)); exact BK151.out) hb); have n1_ := Aside0.mk (blk_below (g := gb159) (o := .cells #[.int .i64 t152, .int .i64 t153, .int .i64 t154, .bool t155] 23 (0, 0)) (by (with_reducible repeat (first | refine blk_drewN ?_ _ | refine blk_drew ?_ | refine blk_alloc ?_ _)); exact BK159.out) hb); have n2_ := Aside0.mk (blk_below (g := gb166) (o := .cells #[.int .i64 t160, .int .i64 t161, .int .i64 t162, .bool t163] 23 (0, 0)) (by (with_reducible repeat (first | refine blk_drewN ?_ _ | refine blk_drew ?_ | refine blk_alloc ?_ _)); exact BK166.out) hb); have n3_ := Aside0.mk (below_step (by repeat (first | (with_reducible first | exact HB.out | apply below_alloc | apply pw_below_drewN | apply below_drew1 | refine below_set ?_ GE151.out | refine below_set ?_ GE159.out | refine below_set ?_ GE166.out) | exact HB.out)) hb); have n4_ := Aside0.mk (hbox); have n5_ := Aside0.mk ((by rw [hg]; exact (below_size (by repeat (first | (with_reducible first | exact HB.out | apply below_alloc | apply pw_below_drewN | apply below_drew1 | refine below_set ?_ GE151.out | refine below_set ?_ GE159.out | refine below_set ?_ GE166.out) | exact HB.out))) : w.heap.size ≤ gb174)); have n6_ := Aside0.mk ((by rw [hg]; exact (below_size (by repeat (first | (with_reducible first | exact HB.out | apply below_alloc | apply pw_below_drewN | apply below_drew1 | refine below_set ?_ GE151.out | refine below_set ?_ GE159.out | refine below_set ?_ GE166.out) | exact HB.out))) : w.heap.size ≤ gb174)); have n7_ := Aside0.mk ((by rw [hg]; exact Nat.ne_of_lt (blk_lt (g := gb151) (o := .cells #[.int .i64 a0_0, .int .i64 a0_1, .int .i64 a0_2, .bool a0_3] 23 (0, 0)) (by (with_reducible repeat (first | refine blk_drewN ?_ _ | refine blk_drew ?_ | refine blk_alloc ?_ _)); exact BK151.out)) : gb151 ≠ gb174)); have n8_ := Aside0.mk ((by rw [hg]; exact Nat.ne_of_gt (blk_lt (g := gb151) (o := .cells #[.int .i64 a0_0, .int .i64 a0_1, .int .i64 a0_2, .bool a0_3] 23 (0, 0)) (by (with_reducible repeat (first | refine blk_drewN ?_ _ | refine blk_drew ?_ | refine blk_alloc ?_ _)); exact BK151.out)) : gb174 ≠ gb151)); have n9_ := Aside0.mk ((by rw [hg]; exact Nat.ne_of_lt (blk_lt (g := gb159) (o := .cells #[.int .i64 t152, .int .i64 t153, .int .i64 t154, .bool t155] 23 (0, 0)) (by (with_reducible repeat (first | refine blk_drewN ?_ _ | refine blk_drew ?_ | refine blk_alloc ?_ _)); exact BK159.out)) : gb159 ≠ gb174)); have n10_ := Aside0.mk ((by rw [hg]; exact Nat.ne_of_gt (blk_lt (g := gb159) (o := .cells #[.int .i64 t152, .int .i64 t153, .int .i64 t154, .bool t155] 23 (0, 0)) (by (with_reducible repeat (first | refine blk_drewN ?_ _ | refine blk_drew ?_ | refine blk_alloc ?_ _)); exact BK159.out)) : gb174 ≠ gb159)); have n11_ := Aside0.mk ((by rw [hg]; exact Nat.ne_of_lt (blk_lt (g := gb166) (o := .cells #[.int .i64 t160, .int .i64 t161, .int .i64 t162, .bool t163] 23 (0, 0)) (by (with_reducible repeat (first | refine blk_drewN ?_ _ | refine blk_drew ?_ | refine blk_alloc ?_ _)); exact BK166.out)) : gb166 ≠ gb174)); have n12_ := Aside0.mk ((by rw [hg]; exact Nat.ne_of_gt (blk_lt (g := gb166) (o := .cells #[.int .i64 t160, .int .i64 t161, .int .i64 t162, .bool t163] 23 (0, 0)) (by (with_reducible repeat (first | refine blk_drewN ?_ _ | refine blk_drew ?_ | refine blk_alloc ?_ _)); exact BK166.out)) : gb174 ≠ gb166)); clear BK151; clear BK159; clear BK166; clear HB; have BK151 := n0_; have BK159 := n1_; have BK166 := n2_; have HB := n3_; have BK174 := n4_; have GW174 := n5_; have GE174 := n6_; have NB151_174 := n7_; have NB174_151 := n8_; have NB159_174 := n9_; have NB174_159 := n10_; have NB166_174 := n11_; have NB174_166 := n12_; clear n0_ n1_ n2_ n3_ n4_ n5_ n6_ n7_ n8_ n9_ n10_ n11_ n12_; clear hb hbox hg; have hnb27 := NB174_151.out; have hnc27 := NB151_174.out; have hnb28 := NB174_159.out; have hnc28 := NB159_174.out; have hnb29 := NB174_166.out; have hnc29 := NB166_174.out; have hcz30_0 : w26.cell? ⟨gb174, 0, none⟩ = some (.int .i64 0) := (blk_cell BK174.out 0).trans rfl; have hcz30_1 : w26.cell? ⟨gb174, 1, none⟩ = some (.int .i64 0) := (blk_cell BK174.out 1).trans rfl; have hcz30_2 : w26.cell? ⟨gb174, 2, none⟩ = some (.int .i64 0) := (blk_cell BK174.out 2).trans rfl; have hcz30_3 : w26.cell? ⟨gb174, 3, none⟩ = some (.bool false) := (blk_cell BK174.out 3).trans rfl; have hfz30_0 := blk_frozen BK174.out 0; have hfz30_1 := blk_frozen BK174.out 1; have hfz30_2 := blk_frozen BK174.out 2; have hfz30_3 := blk_frozen BK174.out 3))
    (try simp only [Act.put, List.setIfInBounds_toArray, List.set_cons_zero, List.set_cons_succ])
    go_cut [93] (fun v93 wc => ∃ (kq : Nat) (x93_8 : Bool), v93 = .bool x93_8 ∧ Aside0 (withylaw16_HandHears.j0 kq a1 a2 t156 t157 t158 x93_8 a0_0 a0_1 a0_2 a0_3 t152 t153 t154 t155 = some r) ∧ Aside0 (kq ≤ k) ∧ Aside0 (wc.heap[gb151]? = some (.cells #[.int .i64 a0_0, .int .i64 a0_1, .int .i64 a0_2, .bool a0_3] 23 (0, 0))) ∧ Aside0 (wc.heap[gb159]? = some (.cells #[.int .i64 t152, .int .i64 t153, .int .i64 t154, .bool t155] 23 (0, 0))) ∧ Aside0 (wc.heap[gb166]? = some (.cells #[.int .i64 t160, .int .i64 t161, .int .i64 t162, .bool t163] 23 (0, 0))) ∧ Aside0 (wc.heap[gb174]? = some (.cells #[.int .i64 t169, .int .i64 t170, .int .i64 t171, .bool t172] 23 (0, 0))) ∧ Aside0 (Below w.heap.size w wc))
    case first =>
      have H := HC9.out
      clear HC9
      by_cases c31 : t165 = 0
      · rw [if_pos c31] at H
        have c31b0 : (t165 == 0) = true := beq_iff_eq.mpr c31
        have c31b1 : (t165 != 0) = false := bne_eq_false_iff_eq.mpr c31
        clear c31
        (first | rw [c31b0] | (simp only [i64_w, i32_w]; rw [c31b0]) | skip)
        by_cases c32 : (!(t160 == t169) || (!(t161 == t170) || (!(t162 == t171) || (!(t163 == t172))))) = true
        · rw [if_pos c32] at H
          have c32b0 : (!(t160 == t169) || (!(t161 == t170) || (!(t162 == t171) || (!(t163 == t172))))) = true := c32
          clear c32
          have H' := Aside0.mk H
          clear H
          have hnb33 := NB166_151.out
          have hnc33 := NB151_166.out
          have hnb34 := NB166_159.out
          have hnc34 := NB159_166.out
          have hnb35 := NB166_174.out
          have hnc35 := NB174_166.out
          have hcz36_0 : w26.cell? ⟨gb166, 0, none⟩ = some (.int .i64 t160) := (blk_cell BK166.out 0).trans rfl
          have hcz36_1 : w26.cell? ⟨gb166, 1, none⟩ = some (.int .i64 t161) := (blk_cell BK166.out 1).trans rfl
          have hcz36_2 : w26.cell? ⟨gb166, 2, none⟩ = some (.int .i64 t162) := (blk_cell BK166.out 2).trans rfl
          have hcz36_3 : w26.cell? ⟨gb166, 3, none⟩ = some (.bool t163) := (blk_cell BK166.out 3).trans rfl
          have hfz36_0 := blk_frozen BK166.out 0
          have hfz36_1 := blk_frozen BK166.out 1
          have hfz36_2 := blk_frozen BK166.out 2
          have hfz36_3 := blk_frozen BK166.out 3
          have hnb37 := NB174_151.out
          have hnc37 := NB151_174.out
          have hnb38 := NB174_159.out
          have hnc38 := NB159_174.out
          have hcz39_0 : w26.cell? ⟨gb174, 0, none⟩ = some (.int .i64 0) := (blk_cell BK174.out 0).trans rfl
          have hcz39_1 : w26.cell? ⟨gb174, 1, none⟩ = some (.int .i64 0) := (blk_cell BK174.out 1).trans rfl
          have hcz39_2 : w26.cell? ⟨gb174, 2, none⟩ = some (.int .i64 0) := (blk_cell BK174.out 2).trans rfl
          have hcz39_3 : w26.cell? ⟨gb174, 3, none⟩ = some (.bool false) := (blk_cell BK174.out 3).trans rfl
          have hfz39_0 := blk_frozen BK174.out 0
          have hfz39_1 := blk_frozen BK174.out 1
          have hfz39_2 := blk_frozen BK174.out 2
          have hfz39_3 := blk_frozen BK174.out 3
          go_wp2
          go_meet
          case rel => exact ⟨_, (true), (by first | rfl | (simp; done) | (simp [*]; done) | (congr 1; omega) | (simp; omega)), H', ⟨by first | omega | exact Nat.le_refl _⟩, ⟨by (with_reducible repeat (first | refine blk_drewN ?_ _ | refine blk_drew ?_ | refine blk_alloc ?_ _)); refine blk_far ?_ NB151_174.out _; (with_reducible repeat (first | refine blk_drewN ?_ _ | refine blk_drew ?_ | refine blk_alloc ?_ _)); refine blk_far ?_ NB151_174.out _; (with_reducible repeat (first | refine blk_drewN ?_ _ | refine blk_drew ?_ | refine blk_alloc ?_ _)); refine blk_far ?_ NB151_174.out _; (with_reducible repeat (first | refine blk_drewN ?_ _ | refine blk_drew ?_ | refine blk_alloc ?_ _)); refine blk_far ?_ NB151_174.out _; (with_reducible repeat (first | refine blk_drewN ?_ _ | refine blk_drew ?_ | refine blk_alloc ?_ _)); exact BK151.out⟩, ⟨by (with_reducible repeat (first | refine blk_drewN ?_ _ | refine blk_drew ?_ | refine blk_alloc ?_ _)); refine blk_far ?_ NB159_174.out _; (with_reducible repeat (first | refine blk_drewN ?_ _ | refine blk_drew ?_ | refine blk_alloc ?_ _)); refine blk_far ?_ NB159_174.out _; (with_reducible repeat (first | refine blk_drewN ?_ _ | refine blk_drew ?_ | refine blk_alloc ?_ _)); refine blk_far ?_ NB159_174.out _; (with_reducible repeat (first | refine blk_drewN ?_ _ | refine blk_drew ?_ | refine blk_alloc ?_ _)); refine blk_far ?_ NB159_174.out _; (with_reducible repeat (first | refine blk_drewN ?_ _ | refine blk_drew ?_ | refine blk_alloc ?_ _)); exact BK159.out⟩, ⟨by (with_reducible repeat (first | refine blk_drewN ?_ _ | refine blk_drew ?_ | refine blk_alloc ?_ _)); refine blk_far ?_ NB166_174.out _; (with_reducible repeat (first | refine blk_drewN ?_ _ | refine blk_drew ?_ | refine blk_alloc ?_ _)); refine blk_far ?_ NB166_174.out _; (with_reducible repeat (first | refine blk_drewN ?_ _ | refine blk_drew ?_ | refine blk_alloc ?_ _)); refine blk_far ?_ NB166_174.out _; (with_reducible repeat (first | refine blk_drewN ?_ _ | refine blk_drew ?_ | refine blk_alloc ?_ _)); refine blk_far ?_ NB166_174.out _; (with_reducible repeat (first | refine blk_drewN ?_ _ | refine blk_drew ?_ | refine blk_alloc ?_ _)); exact BK166.out⟩, ⟨by (with_reducible repeat (first | refine blk_drewN ?_ _ | refine blk_drew ?_ | refine blk_alloc ?_ _)); refine blk_put (cs := #[.int .i64 t169, .int .i64 t170, .int .i64 t171, .bool false]) ?_ 3 _ rfl; (with_reducible repeat (first | refine blk_drewN ?_ _ | refine blk_drew ?_ | refine blk_alloc ?_ _)); refine blk_put (cs := #[.int .i64 t169, .int .i64 t170, .int .i64 0, .bool false]) ?_ 2 _ rfl; (with_reducible repeat (first | refine blk_drewN ?_ _ | refine blk_drew ?_ | refine blk_alloc ?_ _)); refine blk_put (cs := #[.int .i64 t169, .int .i64 0, .int .i64 0, .bool false]) ?_ 1 _ rfl; (with_reducible repeat (first | refine blk_drewN ?_ _ | refine blk_drew ?_ | refine blk_alloc ?_ _)); refine blk_put (cs := #[.int .i64 0, .int .i64 0, .int .i64 0, .bool false]) ?_ 0 _ rfl; (with_reducible repeat (first | refine blk_drewN ?_ _ | refine blk_drew ?_ | refine blk_alloc ?_ _)); exact BK174.out⟩, ⟨by repeat (first | (with_reducible first | exact HB.out | apply below_alloc | apply pw_below_drewN | apply below_drew1 | refine below_set ?_ GE151.out | refine below_set ?_ GE159.out | refine below_set ?_ GE166.out | refine below_set ?_ GE174.out) | exact HB.out)⟩⟩
        · rw [if_neg c32] at H
          have c32b0 : (!(t160 == t169) || (!(t161 == t170) || (!(t162 == t171) || (!(t163 == t172))))) = false := by simpa using c32
          clear c32
          obtain ⟨bq40, hbq40⟩ : ∃ b_ : Bool, (t164 != t173) = b_ := ⟨_, rfl⟩
          replace H : (if bq40 = true then (withylaw16_HandHears.j0 k a1 a2 t156 t157 t158 true a0_0 a0_1 a0_2 a0_3 t152 t153 t154 t155) else (withylaw16_HandHears.j0 k a1 a2 t156 t157 t158 (decide (t160 < a0_0)) a0_0 a0_1 a0_2 a0_3 t152 t153 t154 t155)) = some r := by first | (rw [hbq40] at H; exact H) | (simp only [hbq40] at H ⊢; exact H)
          have hbq40_ : (!(t164 == t173)) = bq40 := hbq40
          by_cases c41 : bq40 = true
          · subst c41
            have H1 : (withylaw16_HandHears.j0 k a1 a2 t156 t157 t158 true a0_0 a0_1 a0_2 a0_3 t152 t153 t154 t155) = some r := by rw [if_pos rfl] at H; exact H
            clear H
            have H := H1
            clear H1
            have H' := Aside0.mk H
            clear H
            have hnb42 := NB166_151.out
            have hnc42 := NB151_166.out
            have hnb43 := NB166_159.out
            have hnc43 := NB159_166.out
            have hnb44 := NB166_174.out
            have hnc44 := NB174_166.out
            have hcz45_0 : w26.cell? ⟨gb166, 0, none⟩ = some (.int .i64 t160) := (blk_cell BK166.out 0).trans rfl
            have hcz45_1 : w26.cell? ⟨gb166, 1, none⟩ = some (.int .i64 t161) := (blk_cell BK166.out 1).trans rfl
            have hcz45_2 : w26.cell? ⟨gb166, 2, none⟩ = some (.int .i64 t162) := (blk_cell BK166.out 2).trans rfl
            have hcz45_3 : w26.cell? ⟨gb166, 3, none⟩ = some (.bool t163) := (blk_cell BK166.out 3).trans rfl
            have hfz45_0 := blk_frozen BK166.out 0
            have hfz45_1 := blk_frozen BK166.out 1
            have hfz45_2 := blk_frozen BK166.out 2
            have hfz45_3 := blk_frozen BK166.out 3
            have hnb46 := NB174_151.out
            have hnc46 := NB151_174.out
            have hnb47 := NB174_159.out
            have hnc47 := NB159_174.out
            have hcz48_0 : w26.cell? ⟨gb174, 0, none⟩ = some (.int .i64 0) := (blk_cell BK174.out 0).trans rfl
            have hcz48_1 : w26.cell? ⟨gb174, 1, none⟩ = some (.int .i64 0) := (blk_cell BK174.out 1).trans rfl
            have hcz48_2 : w26.cell? ⟨gb174, 2, none⟩ = some (.int .i64 0) := (blk_cell BK174.out 2).trans rfl
            have hcz48_3 : w26.cell? ⟨gb174, 3, none⟩ = some (.bool false) := (blk_cell BK174.out 3).trans rfl
            have hfz48_0 := blk_frozen BK174.out 0
            have hfz48_1 := blk_frozen BK174.out 1
            have hfz48_2 := blk_frozen BK174.out 2
            have hfz48_3 := blk_frozen BK174.out 3
            go_wp2
            go_meet
            case rel => exact ⟨_, (true), (by first | rfl | (simp; done) | (simp [*]; done) | (congr 1; omega) | (simp; omega)), H', ⟨by first | omega | exact Nat.le_refl _⟩, ⟨by (with_reducible repeat (first | refine blk_drewN ?_ _ | refine blk_drew ?_ | refine blk_alloc ?_ _)); refine blk_far ?_ NB151_174.out _; (with_reducible repeat (first | refine blk_drewN ?_ _ | refine blk_drew ?_ | refine blk_alloc ?_ _)); refine blk_far ?_ NB151_174.out _; (with_reducible repeat (first | refine blk_drewN ?_ _ | refine blk_drew ?_ | refine blk_alloc ?_ _)); refine blk_far ?_ NB151_174.out _; (with_reducible repeat (first | refine blk_drewN ?_ _ | refine blk_drew ?_ | refine blk_alloc ?_ _)); refine blk_far ?_ NB151_174.out _; (with_reducible repeat (first | refine blk_drewN ?_ _ | refine blk_drew ?_ | refine blk_alloc ?_ _)); exact BK151.out⟩, ⟨by (with_reducible repeat (first | refine blk_drewN ?_ _ | refine blk_drew ?_ | refine blk_alloc ?_ _)); refine blk_far ?_ NB159_174.out _; (with_reducible repeat (first | refine blk_drewN ?_ _ | refine blk_drew ?_ | refine blk_alloc ?_ _)); refine blk_far ?_ NB159_174.out _; (with_reducible repeat (first | refine blk_drewN ?_ _ | refine blk_drew ?_ | refine blk_alloc ?_ _)); refine blk_far ?_ NB159_174.out _; (with_reducible repeat (first | refine blk_drewN ?_ _ | refine blk_drew ?_ | refine blk_alloc ?_ _)); refine blk_far ?_ NB159_174.out _; (with_reducible repeat (first | refine blk_drewN ?_ _ | refine blk_drew ?_ | refine blk_alloc ?_ _)); exact BK159.out⟩, ⟨by (with_reducible repeat (first | refine blk_drewN ?_ _ | refine blk_drew ?_ | refine blk_alloc ?_ _)); refine blk_far ?_ NB166_174.out _; (with_reducible repeat (first | refine blk_drewN ?_ _ | refine blk_drew ?_ | refine blk_alloc ?_ _)); refine blk_far ?_ NB166_174.out _; (with_reducible repeat (first | refine blk_drewN ?_ _ | refine blk_drew ?_ | refine blk_alloc ?_ _)); refine blk_far ?_ NB166_174.out _; (with_reducible repeat (first | refine blk_drewN ?_ _ | refine blk_drew ?_ | refine blk_alloc ?_ _)); refine blk_far ?_ NB166_174.out _; (with_reducible repeat (first | refine blk_drewN ?_ _ | refine blk_drew ?_ | refine blk_alloc ?_ _)); exact BK166.out⟩, ⟨by (with_reducible repeat (first | refine blk_drewN ?_ _ | refine blk_drew ?_ | refine blk_alloc ?_ _)); refine blk_put (cs := #[.int .i64 t169, .int .i64 t170, .int .i64 t171, .bool false]) ?_ 3 _ rfl; (with_reducible repeat (first | refine blk_drewN ?_ _ | refine blk_drew ?_ | refine blk_alloc ?_ _)); refine blk_put (cs := #[.int .i64 t169, .int .i64 t170, .int .i64 0, .bool false]) ?_ 2 _ rfl; (with_reducible repeat (first | refine blk_drewN ?_ _ | refine blk_drew ?_ | refine blk_alloc ?_ _)); refine blk_put (cs := #[.int .i64 t169, .int .i64 0, .int .i64 0, .bool false]) ?_ 1 _ rfl; (with_reducible repeat (first | refine blk_drewN ?_ _ | refine blk_drew ?_ | refine blk_alloc ?_ _)); refine blk_put (cs := #[.int .i64 0, .int .i64 0, .int .i64 0, .bool false]) ?_ 0 _ rfl; (with_reducible repeat (first | refine blk_drewN ?_ _ | refine blk_drew ?_ | refine blk_alloc ?_ _)); exact BK174.out⟩, ⟨by repeat (first | (with_reducible first | exact HB.out | apply below_alloc | apply pw_below_drewN | apply below_drew1 | refine below_set ?_ GE151.out | refine below_set ?_ GE159.out | refine below_set ?_ GE166.out | refine below_set ?_ GE174.out) | exact HB.out)⟩⟩
          · replace c41 := Bool.eq_false_iff.mpr c41
            subst c41
            have H1 : (withylaw16_HandHears.j0 k a1 a2 t156 t157 t158 (decide (t160 < a0_0)) a0_0 a0_1 a0_2 a0_3 t152 t153 t154 t155) = some r := by rw [if_neg (show ¬ (false = true) by decide)] at H; exact H
            clear H
            have H := H1
            clear H1
            have H' := Aside0.mk H
            clear H
            have hnb49 := NB166_151.out
            have hnc49 := NB151_166.out
            have hnb50 := NB166_159.out
            have hnc50 := NB159_166.out
            have hnb51 := NB166_174.out
            have hnc51 := NB174_166.out
            have hcz52_0 : w26.cell? ⟨gb166, 0, none⟩ = some (.int .i64 t160) := (blk_cell BK166.out 0).trans rfl
            have hcz52_1 : w26.cell? ⟨gb166, 1, none⟩ = some (.int .i64 t161) := (blk_cell BK166.out 1).trans rfl
            have hcz52_2 : w26.cell? ⟨gb166, 2, none⟩ = some (.int .i64 t162) := (blk_cell BK166.out 2).trans rfl
            have hcz52_3 : w26.cell? ⟨gb166, 3, none⟩ = some (.bool t163) := (blk_cell BK166.out 3).trans rfl
            have hfz52_0 := blk_frozen BK166.out 0
            have hfz52_1 := blk_frozen BK166.out 1
            have hfz52_2 := blk_frozen BK166.out 2
            have hfz52_3 := blk_frozen BK166.out 3
            have hnb53 := NB174_151.out
            have hnc53 := NB151_174.out
            have hnb54 := NB174_159.out
            have hnc54 := NB159_174.out
            have hcz55_0 : w26.cell? ⟨gb174, 0, none⟩ = some (.int .i64 0) := (blk_cell BK174.out 0).trans rfl
            have hcz55_1 : w26.cell? ⟨gb174, 1, none⟩ = some (.int .i64 0) := (blk_cell BK174.out 1).trans rfl
            have hcz55_2 : w26.cell? ⟨gb174, 2, none⟩ = some (.int .i64 0) := (blk_cell BK174.out 2).trans rfl
            have hcz55_3 : w26.cell? ⟨gb174, 3, none⟩ = some (.bool false) := (blk_cell BK174.out 3).trans rfl
            have hfz55_0 := blk_frozen BK174.out 0
            have hfz55_1 := blk_frozen BK174.out 1
            have hfz55_2 := blk_frozen BK174.out 2
            have hfz55_3 := blk_frozen BK174.out 3
            have hnb56 := NB151_159.out
            have hnc56 := NB159_151.out
            have hcz57_0 : w26.cell? ⟨gb151, 0, none⟩ = some (.int .i64 a0_0) := (blk_cell BK151.out 0).trans rfl
            have hcz57_1 : w26.cell? ⟨gb151, 1, none⟩ = some (.int .i64 a0_1) := (blk_cell BK151.out 1).trans rfl
            have hcz57_2 : w26.cell? ⟨gb151, 2, none⟩ = some (.int .i64 a0_2) := (blk_cell BK151.out 2).trans rfl
            have hcz57_3 : w26.cell? ⟨gb151, 3, none⟩ = some (.bool a0_3) := (blk_cell BK151.out 3).trans rfl
            have hfz57_0 := blk_frozen BK151.out 0
            have hfz57_1 := blk_frozen BK151.out 1
            have hfz57_2 := blk_frozen BK151.out 2
            have hfz57_3 := blk_frozen BK151.out 3
            go_wp2
            go_meet
            case rel => exact ⟨_, (decide (t160 < a0_0)), (by first | rfl | (simp; done) | (simp [*]; done) | (congr 1; omega) | (simp; omega)), H', ⟨by first | omega | exact Nat.le_refl _⟩, ⟨by (with_reducible repeat (first | refine blk_drewN ?_ _ | refine blk_drew ?_ | refine blk_alloc ?_ _)); refine blk_far ?_ NB151_174.out _; (with_reducible repeat (first | refine blk_drewN ?_ _ | refine blk_drew ?_ | refine blk_alloc ?_ _)); refine blk_far ?_ NB151_174.out _; (with_reducible repeat (first | refine blk_drewN ?_ _ | refine blk_drew ?_ | refine blk_alloc ?_ _)); refine blk_far ?_ NB151_174.out _; (with_reducible repeat (first | refine blk_drewN ?_ _ | refine blk_drew ?_ | refine blk_alloc ?_ _)); refine blk_far ?_ NB151_174.out _; (with_reducible repeat (first | refine blk_drewN ?_ _ | refine blk_drew ?_ | refine blk_alloc ?_ _)); exact BK151.out⟩, ⟨by (with_reducible repeat (first | refine blk_drewN ?_ _ | refine blk_drew ?_ | refine blk_alloc ?_ _)); refine blk_far ?_ NB159_174.out _; (with_reducible repeat (first | refine blk_drewN ?_ _ | refine blk_drew ?_ | refine blk_alloc ?_ _)); refine blk_far ?_ NB159_174.out _; (with_reducible repeat (first | refine blk_drewN ?_ _ | refine blk_drew ?_ | refine blk_alloc ?_ _)); refine blk_far ?_ NB159_174.out _; (with_reducible repeat (first | refine blk_drewN ?_ _ | refine blk_drew ?_ | refine blk_alloc ?_ _)); refine blk_far ?_ NB159_174.out _; (with_reducible repeat (first | refine blk_drewN ?_ _ | refine blk_drew ?_ | refine blk_alloc ?_ _)); exact BK159.out⟩, ⟨by (with_reducible repeat (first | refine blk_drewN ?_ _ | refine blk_drew ?_ | refine blk_alloc ?_ _)); refine blk_far ?_ NB166_174.out _; (with_reducible repeat (first | refine blk_drewN ?_ _ | refine blk_drew ?_ | refine blk_alloc ?_ _)); refine blk_far ?_ NB166_174.out _; (with_reducible repeat (first | refine blk_drewN ?_ _ | refine blk_drew ?_ | refine blk_alloc ?_ _)); refine blk_far ?_ NB166_174.out _; (with_reducible repeat (first | refine blk_drewN ?_ _ | refine blk_drew ?_ | refine blk_alloc ?_ _)); refine blk_far ?_ NB166_174.out _; (with_reducible repeat (first | refine blk_drewN ?_ _ | refine blk_drew ?_ | refine blk_alloc ?_ _)); exact BK166.out⟩, ⟨by (with_reducible repeat (first | refine blk_drewN ?_ _ | refine blk_drew ?_ | refine blk_alloc ?_ _)); refine blk_put (cs := #[.int .i64 t169, .int .i64 t170, .int .i64 t171, .bool false]) ?_ 3 _ rfl; (with_reducible repeat (first | refine blk_drewN ?_ _ | refine blk_drew ?_ | refine blk_alloc ?_ _)); refine blk_put (cs := #[.int .i64 t169, .int .i64 t170, .int .i64 0, .bool false]) ?_ 2 _ rfl; (with_reducible repeat (first | refine blk_drewN ?_ _ | refine blk_drew ?_ | refine blk_alloc ?_ _)); refine blk_put (cs := #[.int .i64 t169, .int .i64 0, .int .i64 0, .bool false]) ?_ 1 _ rfl; (with_reducible repeat (first | refine blk_drewN ?_ _ | refine blk_drew ?_ | refine blk_alloc ?_ _)); refine blk_put (cs := #[.int .i64 0, .int .i64 0, .int .i64 0, .bool false]) ?_ 0 _ rfl; (with_reducible repeat (first | refine blk_drewN ?_ _ | refine blk_drew ?_ | refine blk_alloc ?_ _)); exact BK174.out⟩, ⟨by repeat (first | (with_reducible first | exact HB.out | apply below_alloc | apply pw_below_drewN | apply below_drew1 | refine below_set ?_ GE151.out | refine below_set ?_ GE159.out | refine below_set ?_ GE166.out | refine below_set ?_ GE174.out) | exact HB.out)⟩⟩
      · rw [if_neg c31] at H
        have c31b0 : (t165 == 0) = false := beq_eq_false_iff_ne.mpr c31
        have c31b1 : (t165 != 0) = true := bne_iff_ne.mpr c31
        (first | rw [c31b0] | (simp only [i64_w, i32_w]; rw [c31b0]) | skip)
        have H' := Aside0.mk H
        clear H
        go_wp2
        go_meet
        case rel => exact ⟨_, (true), (by first | rfl | (simp; done) | (simp [*]; done) | (congr 1; omega) | (simp; omega)), H', ⟨by first | omega | exact Nat.le_refl _⟩, ⟨by (with_reducible repeat (first | refine blk_drewN ?_ _ | refine blk_drew ?_ | refine blk_alloc ?_ _)); refine blk_far ?_ NB151_174.out _; (with_reducible repeat (first | refine blk_drewN ?_ _ | refine blk_drew ?_ | refine blk_alloc ?_ _)); refine blk_far ?_ NB151_174.out _; (with_reducible repeat (first | refine blk_drewN ?_ _ | refine blk_drew ?_ | refine blk_alloc ?_ _)); refine blk_far ?_ NB151_174.out _; (with_reducible repeat (first | refine blk_drewN ?_ _ | refine blk_drew ?_ | refine blk_alloc ?_ _)); refine blk_far ?_ NB151_174.out _; (with_reducible repeat (first | refine blk_drewN ?_ _ | refine blk_drew ?_ | refine blk_alloc ?_ _)); exact BK151.out⟩, ⟨by (with_reducible repeat (first | refine blk_drewN ?_ _ | refine blk_drew ?_ | refine blk_alloc ?_ _)); refine blk_far ?_ NB159_174.out _; (with_reducible repeat (first | refine blk_drewN ?_ _ | refine blk_drew ?_ | refine blk_alloc ?_ _)); refine blk_far ?_ NB159_174.out _; (with_reducible repeat (first | refine blk_drewN ?_ _ | refine blk_drew ?_ | refine blk_alloc ?_ _)); refine blk_far ?_ NB159_174.out _; (with_reducible repeat (first | refine blk_drewN ?_ _ | refine blk_drew ?_ | refine blk_alloc ?_ _)); refine blk_far ?_ NB159_174.out _; (with_reducible repeat (first | refine blk_drewN ?_ _ | refine blk_drew ?_ | refine blk_alloc ?_ _)); exact BK159.out⟩, ⟨by (with_reducible repeat (first | refine blk_drewN ?_ _ | refine blk_drew ?_ | refine blk_alloc ?_ _)); refine blk_far ?_ NB166_174.out _; (with_reducible repeat (first | refine blk_drewN ?_ _ | refine blk_drew ?_ | refine blk_alloc ?_ _)); refine blk_far ?_ NB166_174.out _; (with_reducible repeat (first | refine blk_drewN ?_ _ | refine blk_drew ?_ | refine blk_alloc ?_ _)); refine blk_far ?_ NB166_174.out _; (with_reducible repeat (first | refine blk_drewN ?_ _ | refine blk_drew ?_ | refine blk_alloc ?_ _)); refine blk_far ?_ NB166_174.out _; (with_reducible repeat (first | refine blk_drewN ?_ _ | refine blk_drew ?_ | refine blk_alloc ?_ _)); exact BK166.out⟩, ⟨by (with_reducible repeat (first | refine blk_drewN ?_ _ | refine blk_drew ?_ | refine blk_alloc ?_ _)); refine blk_put (cs := #[.int .i64 t169, .int .i64 t170, .int .i64 t171, .bool false]) ?_ 3 _ rfl; (with_reducible repeat (first | refine blk_drewN ?_ _ | refine blk_drew ?_ | refine blk_alloc ?_ _)); refine blk_put (cs := #[.int .i64 t169, .int .i64 t170, .int .i64 0, .bool false]) ?_ 2 _ rfl; (with_reducible repeat (first | refine blk_drewN ?_ _ | refine blk_drew ?_ | refine blk_alloc ?_ _)); refine blk_put (cs := #[.int .i64 t169, .int .i64 0, .int .i64 0, .bool false]) ?_ 1 _ rfl; (with_reducible repeat (first | refine blk_drewN ?_ _ | refine blk_drew ?_ | refine blk_alloc ?_ _)); refine blk_put (cs := #[.int .i64 0, .int .i64 0, .int .i64 0, .bool false]) ?_ 0 _ rfl; (with_reducible repeat (first | refine blk_drewN ?_ _ | refine blk_drew ?_ | refine blk_alloc ?_ _)); exact BK174.out⟩, ⟨by repeat (first | (with_reducible first | exact HB.out | apply below_alloc | apply pw_below_drewN | apply below_drew1 | refine below_set ?_ GE151.out | refine below_set ?_ GE159.out | refine below_set ?_ GE166.out | refine below_set ?_ GE174.out) | exact HB.out)⟩⟩
    case rest =>
      clear HC9
      try clear c1
      try clear c2
      try clear p2
      try clear c3
      try clear c4
      try clear q4
      try clear c5
      try clear c7
      try clear c8
      try clear c9
      try clear c10
      try clear c12
      try clear c14
      try clear c19
      try clear c20
      try clear c27
      try clear c28
      try clear c29
      try clear c31
      try clear c31b0
      try clear c31b1
      try clear c32
      try clear c32b0
      try clear c33
      try clear c34
      try clear c35
      try clear c37
      try clear c38
      try clear q40
      try clear c41
      try clear c42
      try clear c43
      try clear c44
      try clear c46
      try clear c47
      try clear c49
      try clear c50
      try clear c51
      try clear c53
      try clear c54
      try clear c56
      try clear hcz11_0
      try clear hcz11_1
      try clear hcz11_2
      try clear hcz11_3
      try clear hcz15_0
      try clear hcz15_1
      try clear hcz15_2
      try clear hcz15_3
      try clear hcz16_0
      try clear hcz16_1
      try clear hcz16_2
      try clear hcz16_3
      try clear hcz21_0
      try clear hcz21_1
      try clear hcz21_2
      try clear hcz21_3
      try clear hcz22_0
      try clear hcz22_1
      try clear hcz22_2
      try clear hcz22_3
      try clear hcz24_0
      try clear hcz24_1
      try clear hcz24_2
      try clear hcz24_3
      try clear hcz30_0
      try clear hcz30_1
      try clear hcz30_2
      try clear hcz30_3
      try clear hcz36_0
      try clear hcz36_1
      try clear hcz36_2
      try clear hcz36_3
      try clear hcz39_0
      try clear hcz39_1
      try clear hcz39_2
      try clear hcz39_3
      try clear hcz45_0
      try clear hcz45_1
      try clear hcz45_2
      try clear hcz45_3
      try clear hcz48_0
      try clear hcz48_1
      try clear hcz48_2
      try clear hcz48_3
      try clear hcz52_0
      try clear hcz52_1
      try clear hcz52_2
      try clear hcz52_3
      try clear hcz55_0
      try clear hcz55_1
      try clear hcz55_2
      try clear hcz55_3
      try clear hcz57_0
      try clear hcz57_1
      try clear hcz57_2
      try clear hcz57_3
      try clear hfz11_0
      try clear hfz11_1
      try clear hfz11_2
      try clear hfz11_3
      try clear hfz15_0
      try clear hfz15_1
      try clear hfz15_2
      try clear hfz15_3
      try clear hfz16_0
      try clear hfz16_1
      try clear hfz16_2
      try clear hfz16_3
      try clear hfz21_0
      try clear hfz21_1
      try clear hfz21_2
      try clear hfz21_3
      try clear hfz22_0
      try clear hfz22_1
      try clear hfz22_2
      try clear hfz22_3
      try clear hfz24_0
      try clear hfz24_1
      try clear hfz24_2
      try clear hfz24_3
      try clear hfz30_0
      try clear hfz30_1
      try clear hfz30_2
      try clear hfz30_3
      try clear hfz36_0
      try clear hfz36_1
      try clear hfz36_2
      try clear hfz36_3
      try clear hfz39_0
      try clear hfz39_1
      try clear hfz39_2
      try clear hfz39_3
      try clear hfz45_0
      try clear hfz45_1
      try clear hfz45_2
      try clear hfz45_3
      try clear hfz48_0
      try clear hfz48_1
      try clear hfz48_2
      try clear hfz48_3
      try clear hfz52_0
      try clear hfz52_1
      try clear hfz52_2
      try clear hfz52_3
      try clear hfz55_0
      try clear hfz55_1
      try clear hfz55_2
      try clear hfz55_3
      try clear hfz57_0
      try clear hfz57_1
      try clear hfz57_2
      try clear hfz57_3
      obtain ⟨kq, x93_8, rfl, HA, HJ8, BK151, BK159, BK166, BK174, HB⟩ := hcut
      cases kq with
      | zero => exact absurd HA.out (by simp [withylaw16_HandHears.j0])
      | succ kj8 =>
        have H := HA.out
        clear HA
        simp only [withylaw16_HandHears.j0] at H
        by_cases c58 : x93_8 = true
        · subst c58
          have H1 : (some false) = some r := by rw [if_pos rfl] at H; exact H
          clear H
          have H := H1
          clear H1
          exact absurd ((Option.some.inj H).trans HR_.out) (by simp)
        · replace c58 := Bool.eq_false_iff.mpr c58
          subst c58
          have H1 : ((withyref16_Limit.f a2).bind fun t175 => (if t175 = true then ((withyref16_Hello.f kj8 a0_0 a0_1 a0_2 a0_3 a1 a2).bind fun bt176 => (if t158 = 0 then (if (t152 == bt176.1 && (t153 == bt176.2.1 && (t154 == bt176.2.2.1 && (t155 == bt176.2.2.2.1)))) = true then (if (t156 == bt176.2.2.2.2.1) = true then (if (t157 == bt176.2.2.2.2.2) = true then (if t152 ≥ a0_0 then (if t154 ≥ a0_2 then ((withylaw16_awake.f kj8).bind fun t183 => (some t183)) else (some false)) else (some false)) else (some false)) else (some false)) else (some false)) else (some false))) else (if t158 = 1 then (if t156 = true then (some false) else (if t157 = true then (some false) else (if (t152 == 0 && (t153 == 0 && (t154 == 0 && (!t155)))) = true then ((withylaw16_awake.f kj8).bind fun t184 => (some t184)) else (some false)))) else (some false)))) = some r := by rw [if_neg (show ¬ (false = true) by decide)] at H; exact H
          clear H
          have H := H1
          clear H1
          replace H := Option.bind_eq_some_iff.mp H
          obtain ⟨t175, A590, H⟩ := H
          replace H : (if t175 = true then ((withyref16_Hello.f kj8 a0_0 a0_1 a0_2 a0_3 a1 a2).bind fun bt176 => (if t158 = 0 then (if (t152 == bt176.1 && (t153 == bt176.2.1 && (t154 == bt176.2.2.1 && (t155 == bt176.2.2.2.1)))) = true then (if (t156 == bt176.2.2.2.2.1) = true then (if (t157 == bt176.2.2.2.2.2) = true then (if t152 ≥ a0_0 then (if t154 ≥ a0_2 then ((withylaw16_awake.f kj8).bind fun t183 => (some t183)) else (some false)) else (some false)) else (some false)) else (some false)) else (some false)) else (some false))) else (if t158 = 1 then (if t156 = true then (some false) else (if t157 = true then (some false) else (if (t152 == 0 && (t153 == 0 && (t154 == 0 && (!t155)))) = true then ((withylaw16_awake.f kj8).bind fun t184 => (some t184)) else (some false)))) else (some false))) = some r := H
          have A59 := Aside0.mk A590
          clear A590
          by_cases c60 : t175 = true
          · subst c60
            have H1 : ((withyref16_Hello.f kj8 a0_0 a0_1 a0_2 a0_3 a1 a2).bind fun bt176 => (if t158 = 0 then (if (t152 == bt176.1 && (t153 == bt176.2.1 && (t154 == bt176.2.2.1 && (t155 == bt176.2.2.2.1)))) = true then (if (t156 == bt176.2.2.2.2.1) = true then (if (t157 == bt176.2.2.2.2.2) = true then (if t152 ≥ a0_0 then (if t154 ≥ a0_2 then ((withylaw16_awake.f kj8).bind fun t183 => (some t183)) else (some false)) else (some false)) else (some false)) else (some false)) else (some false)) else (some false))) = some r := by rw [if_pos rfl] at H; exact H
            clear H
            have H := H1
            clear H1
            replace H := Option.bind_eq_some_iff.mp H
            obtain ⟨⟨t176, t177, t178, t179, t180, t181⟩, A610, H⟩ := H
            replace H : (if t158 = 0 then (if (t152 == t176 && (t153 == t177 && (t154 == t178 && (t155 == t179)))) = true then (if (t156 == t180) = true then (if (t157 == t181) = true then (if t152 ≥ a0_0 then (if t154 ≥ a0_2 then ((withylaw16_awake.f kj8).bind fun t183 => (some t183)) else (some false)) else (some false)) else (some false)) else (some false)) else (some false)) else (some false)) = some r := H
            have A61 := Aside0.mk A610
            clear A610
            by_cases c62 : t158 = 0
            · rw [if_pos c62] at H
              have c62b0 : (t158 == 0) = true := beq_iff_eq.mpr c62
              have c62b1 : (t158 != 0) = false := bne_eq_false_iff_eq.mpr c62
              clear c62
              by_cases c63 : (t152 == t176 && (t153 == t177 && (t154 == t178 && (t155 == t179)))) = true
              · rw [if_pos c63] at H
                have c63b0 : (t152 == t176 && (t153 == t177 && (t154 == t178 && (t155 == t179)))) = true := c63
                (try (have c63b1 : decide (t152 = t176 && (t153 == t177 && (t154 == t178 && (t155 == t179)))) = true := by simpa using c63))
                (try (have c63b2 : (t152 == t176 && (t153 == t177 && (t154 == t178 && (t155 == t179)))) = true := by simpa using c63))
                clear c63
                by_cases c64 : (t156 == t180) = true
                · rw [if_pos c64] at H
                  have c64b0 : (t156 == t180) = true := c64
                  (try (have c64b1 : decide (t156 = t180) = true := by simpa using c64))
                  (try (have c64b2 : (t156 == t180) = true := by simpa using c64))
                  clear c64
                  by_cases c65 : (t157 == t181) = true
                  · rw [if_pos c65] at H
                    have c65b0 : (t157 == t181) = true := c65
                    (try (have c65b1 : decide (t157 = t181) = true := by simpa using c65))
                    (try (have c65b2 : (t157 == t181) = true := by simpa using c65))
                    clear c65
                    by_cases c66 : t152 ≥ a0_0
                    · rw [if_pos c66] at H
                      have c66b0 : decide (a0_0 ≤ t152) = true := decide_eq_true c66
                      clear c66
                      by_cases c67 : t154 ≥ a0_2
                      · rw [if_pos c67] at H
                        have c67b0 : decide (a0_2 ≤ t154) = true := decide_eq_true c67
                        clear c67
                        replace H := Option.bind_eq_some_iff.mp H
                        obtain ⟨t183, A680, H⟩ := H
                        replace H : (some t183) = some r := H
                        have A68 := Aside0.mk A680
                        clear A680
                        obtain rfl := Option.some.inj H
                        go_wp2_with (first | ((with_reducible refine gate_callee (f := 13) rfl ?_); refine goesL_ (some 95) rfl rfl Try.func13 (by kernel_rfl) rfl #[.int .i64 a2] rfl (by (try simp only [List.map_toArray, List.map_cons, List.map_nil]); first | done | rfl | (simp only [List.length_drop, List.length_take]; rfl)) ?_; (with_reducible refine (withyref16_Limit.calls a2 true _ A59.out).mono ?_); rintro e w' ⟨rfl, ⟨nd, rfl⟩⟩; refine ⟨_, rfl, ?_⟩; (try (rw [drewN_self wc]; generalize hq_ : World.drewN wc _ = wc; have n0_ : Aside0 (wc.heap[gb151]? = some (.cells #[.int .i64 a0_0, .int .i64 a0_1, .int .i64 a0_2, .bool a0_3] 23 (0, 0))) := ⟨by rw [← hq_]; exact (by (with_reducible repeat (first | refine blk_drewN ?_ _ | refine blk_drew ?_ | refine blk_alloc ?_ _)); exact BK151.out)⟩; have n1_ : Aside0 (wc.heap[gb159]? = some (.cells #[.int .i64 t152, .int .i64 t153, .int .i64 t154, .bool t155] 23 (0, 0))) := ⟨by rw [← hq_]; exact (by (with_reducible repeat (first | refine blk_drewN ?_ _ | refine blk_drew ?_ | refine blk_alloc ?_ _)); exact BK159.out)⟩; have n2_ : Aside0 (wc.heap[gb166]? = some (.cells #[.int .i64 t160, .int .i64 t161, .int .i64 t162, .bool t163] 23 (0, 0))) := ⟨by rw [← hq_]; exact (by (with_reducible repeat (first | refine blk_drewN ?_ _ | refine blk_drew ?_ | refine blk_alloc ?_ _)); exact BK166.out)⟩; have n3_ : Aside0 (wc.heap[gb174]? = some (.cells #[.int .i64 t169, .int .i64 t170, .int .i64 t171, .bool t172] 23 (0, 0))) := ⟨by rw [← hq_]; exact (by (with_reducible repeat (first | refine blk_drewN ?_ _ | refine blk_drew ?_ | refine blk_alloc ?_ _)); exact BK174.out)⟩; have n4_ : Aside0 (Below w.heap.size w wc) := ⟨by rw [← hq_]; exact (by repeat (first | (with_reducible first | exact HB.out | apply below_alloc | apply pw_below_drewN | apply below_drew1 | refine below_set ?_ GE151.out | refine below_set ?_ GE159.out | refine below_set ?_ GE166.out | refine below_set ?_ GE174.out) | exact HB.out))⟩; clear BK151 BK159 BK166 BK174 HB hq_; have BK151 := n0_; have BK159 := n1_; have BK166 := n2_; have BK174 := n3_; have HB := n4_; clear n0_ n1_ n2_ n3_ n4_)); have hnb69 := NB151_159.out; have hnc69 := NB159_151.out; have hnb70 := NB151_166.out; have hnc70 := NB166_151.out; have hnb71 := NB151_174.out; have hnc71 := NB174_151.out; have hcz72_0 : wc.cell? ⟨gb151, 0, none⟩ = some (.int .i64 a0_0) := (blk_cell BK151.out 0).trans rfl; have hcz72_1 : wc.cell? ⟨gb151, 1, none⟩ = some (.int .i64 a0_1) := (blk_cell BK151.out 1).trans rfl; have hcz72_2 : wc.cell? ⟨gb151, 2, none⟩ = some (.int .i64 a0_2) := (blk_cell BK151.out 2).trans rfl; have hcz72_3 : wc.cell? ⟨gb151, 3, none⟩ = some (.bool a0_3) := (blk_cell BK151.out 3).trans rfl; have hfz72_0 := blk_frozen BK151.out 0; have hfz72_1 := blk_frozen BK151.out 1; have hfz72_2 := blk_frozen BK151.out 2; have hfz72_3 := blk_frozen BK151.out 3) | ((with_reducible refine gate_callee (f := 14) rfl ?_); refine goesL_ (some 119) rfl rfl Try.func14 (by kernel_rfl) rfl #[.agg #[.int .i64 a0_0, .int .i64 a0_1, .int .i64 a0_2, .bool a0_3], .int .i64 a1, .int .i64 a2] rfl (by (try simp only [List.map_toArray, List.map_cons, List.map_nil]); first | done | rfl | (simp only [List.length_drop, List.length_take]; rfl)) ?_; (with_reducible refine (withyref16_Hello.calls kj8 a0_0 a0_1 a0_2 a0_3 a1 a2 t176 t177 t178 t179 t180 t181 _ A61.out).mono ?_); rintro e w73 ⟨rfl, hb⟩; refine ⟨_, rfl, ?_⟩; have n0_ := Aside0.mk (blk_below (g := gb151) (o := .cells #[.int .i64 a0_0, .int .i64 a0_1, .int .i64 a0_2, .bool a0_3] 23 (0, 0)) (by (with_reducible repeat (first | refine blk_drewN ?_ _ | refine blk_drew ?_ | refine blk_alloc ?_ _)); exact BK151.out) hb); have n1_ := Aside0.mk (blk_below (g := gb159) (o := .cells #[.int .i64 t152, .int .i64 t153, .int .i64 t154, .bool t155] 23 (0, 0)) (by (with_reducible repeat (first | refine blk_drewN ?_ _ | refine blk_drew ?_ | refine blk_alloc ?_ _)); exact BK159.out) hb); have n2_ := Aside0.mk (blk_below (g := gb166) (o := .cells #[.int .i64 t160, .int .i64 t161, .int .i64 t162, .bool t163] 23 (0, 0)) (by (with_reducible repeat (first | refine blk_drewN ?_ _ | refine blk_drew ?_ | refine blk_alloc ?_ _)); exact BK166.out) hb); have n3_ := Aside0.mk (blk_below (g := gb174) (o := .cells #[.int .i64 t169, .int .i64 t170, .int .i64 t171, .bool t172] 23 (0, 0)) (by (with_reducible repeat (first | refine blk_drewN ?_ _ | refine blk_drew ?_ | refine blk_alloc ?_ _)); exact BK174.out) hb); have n4_ := Aside0.mk (below_step (by repeat (first | (with_reducible first | exact HB.out | apply below_alloc | apply pw_below_drewN | apply below_drew1 | refine below_set ?_ GE151.out | refine below_set ?_ GE159.out | refine below_set ?_ GE166.out | refine below_set ?_ GE174.out) | exact HB.out)) hb); clear BK151; clear BK159; clear BK166; clear BK174; clear HB; have BK151 := n0_; have BK159 := n1_; have BK166 := n2_; have BK174 := n3_; have HB := n4_; clear n0_ n1_ n2_ n3_ n4_; (try clear hb); (try clear hb2); (try clear hk); (try clear hi)) | ((with_reducible refine gate_dst (N := 16) rfl ?_); refine box_event ?hg (N := 16) ?hd (cs := #[.int .i64 0, .int .i64 0, .int .i64 0, .bool false]) (t := 23) ?hr ?_; (case hd => rfl); (case hg => rfl); (case hr => first | (go_simp; done) | (go_simp; rfl)); intro gb182 hg w74 hbox hb; have n0_ := Aside0.mk (blk_below (g := gb151) (o := .cells #[.int .i64 a0_0, .int .i64 a0_1, .int .i64 a0_2, .bool a0_3] 23 (0, 0)) (by (with_reducible repeat (first | refine blk_drewN ?_ _ | refine blk_drew ?_ | refine blk_alloc ?_ _)); exact BK151.out) hb); have n1_ := Aside0.mk (blk_below (g := gb159) (o := .cells #[.int .i64 t152, .int .i64 t153, .int .i64 t154, .bool t155] 23 (0, 0)) (by (with_reducible repeat (first | refine blk_drewN ?_ _ | refine blk_drew ?_ | refine blk_alloc ?_ _)); exact BK159.out) hb); have n2_ := Aside0.mk (blk_below (g := gb166) (o := .cells #[.int .i64 t160, .int .i64 t161, .int .i64 t162, .bool t163] 23 (0, 0)) (by (with_reducible repeat (first | refine blk_drewN ?_ _ | refine blk_drew ?_ | refine blk_alloc ?_ _)); exact BK166.out) hb); have n3_ := Aside0.mk (blk_below (g := gb174) (o := .cells #[.int .i64 t169, .int .i64 t170, .int .i64 t171, .bool t172] 23 (0, 0)) (by (with_reducible repeat (first | refine blk_drewN ?_ _ | refine blk_drew ?_ | refine blk_alloc ?_ _)); exact BK174.out) hb); have n4_ := Aside0.mk (below_step (by repeat (first | (with_reducible first | exact HB.out | apply below_alloc | apply pw_below_drewN | apply below_drew1 | refine below_set ?_ GE151.out | refine below_set ?_ GE159.out | refine below_set ?_ GE166.out | refine below_set ?_ GE174.out) | exact HB.out)) hb); have n5_ := Aside0.mk (hbox); have n6_ := Aside0.mk ((by rw [hg]; exact (below_size (by repeat (first | (with_reducible first | exact HB.out | apply below_alloc | apply pw_below_drewN | apply below_drew1 | refine below_set ?_ GE151.out | refine below_set ?_ GE159.out | refine below_set ?_ GE166.out | refine below_set ?_ GE174.out) | exact HB.out))) : w.heap.size ≤ gb182)); have n7_ := Aside0.mk ((by rw [hg]; exact (below_size (by repeat (first | (with_reducible first | exact HB.out | apply below_alloc | apply pw_below_drewN | apply below_drew1 | refine below_set ?_ GE151.out | refine below_set ?_ GE159.out | refine below_set ?_ GE166.out | refine below_set ?_ GE174.out) | exact HB.out))) : w.heap.size ≤ gb182)); have n8_ := Aside0.mk ((by rw [hg]; exact Nat.ne_of_lt (blk_lt (g := gb151) (o := .cells #[.int .i64 a0_0, .int .i64 a0_1, .int .i64 a0_2, .bool a0_3] 23 (0, 0)) (by (with_reducible repeat (first | refine blk_drewN ?_ _ | refine blk_drew ?_ | refine blk_alloc ?_ _)); exact BK151.out)) : gb151 ≠ gb182)); have n9_ := Aside0.mk ((by rw [hg]; exact Nat.ne_of_gt (blk_lt (g := gb151) (o := .cells #[.int .i64 a0_0, .int .i64 a0_1, .int .i64 a0_2, .bool a0_3] 23 (0, 0)) (by (with_reducible repeat (first | refine blk_drewN ?_ _ | refine blk_drew ?_ | refine blk_alloc ?_ _)); exact BK151.out)) : gb182 ≠ gb151)); have n10_ := Aside0.mk ((by rw [hg]; exact Nat.ne_of_lt (blk_lt (g := gb159) (o := .cells #[.int .i64 t152, .int .i64 t153, .int .i64 t154, .bool t155] 23 (0, 0)) (by (with_reducible repeat (first | refine blk_drewN ?_ _ | refine blk_drew ?_ | refine blk_alloc ?_ _)); exact BK159.out)) : gb159 ≠ gb182)); have n11_ := Aside0.mk ((by rw [hg]; exact Nat.ne_of_gt (blk_lt (g := gb159) (o := .cells #[.int .i64 t152, .int .i64 t153, .int .i64 t154, .bool t155] 23 (0, 0)) (by (with_reducible repeat (first | refine blk_drewN ?_ _ | refine blk_drew ?_ | refine blk_alloc ?_ _)); exact BK159.out)) : gb182 ≠ gb159)); have n12_ := Aside0.mk ((by rw [hg]; exact Nat.ne_of_lt (blk_lt (g := gb166) (o := .cells #[.int .i64 t160, .int .i64 t161, .int .i64 t162, .bool t163] 23 (0, 0)) (by (with_reducible repeat (first | refine blk_drewN ?_ _ | refine blk_drew ?_ | refine blk_alloc ?_ _)); exact BK166.out)) : gb166 ≠ gb182)); have n13_ := Aside0.mk ((by rw [hg]; exact Nat.ne_of_gt (blk_lt (g := gb166) (o := .cells #[.int .i64 t160, .int .i64 t161, .int .i64 t162, .bool t163] 23 (0, 0)) (by (with_reducible repeat (first | refine blk_drewN ?_ _ | refine blk_drew ?_ | refine blk_alloc ?_ _)); exact BK166.out)) : gb182 ≠ gb166)); have n14_ := Aside0.mk ((by rw [hg]; exact Nat.ne_of_lt (blk_lt (g := gb174) (o := .cells #[.int .i64 t169, .int .i64 t170, .int .i64 t171, .bool t172] 23 (0, 0)) (by (with_reducible repeat (first | refine blk_drewN ?_ _ | refine blk_drew ?_ | refine blk_alloc ?_ _)); exact BK174.out)) : gb174 ≠ gb182)); have n15_ := Aside0.mk ((by rw [hg]; exact Nat.ne_of_gt (blk_lt (g := gb174) (o := .cells #[.int .i64 t169, .int .i64 t170, .int .i64 t171, .bool t172] 23 (0, 0)) (by (with_reducible repeat (first | refine blk_drewN ?_ _ | refine blk_drew ?_ | refine blk_alloc ?_ _)); exact BK174.out)) : gb182 ≠ gb174)); clear BK151; clear BK159; clear BK166; clear BK174; clear HB; have BK151 := n0_; have BK159 := n1_; have BK166 := n2_; have BK174 := n3_; have HB := n4_; have BK182 := n5_; have GW182 := n6_; have GE182 := n7_; have NB151_182 := n8_; have NB182_151 := n9_; have NB159_182 := n10_; have NB182_159 := n11_; have NB166_182 := n12_; have NB182_166 := n13_; have NB174_182 := n14_; have NB182_174 := n15_; clear n0_ n1_ n2_ n3_ n4_ n5_ n6_ n7_ n8_ n9_ n10_ n11_ n12_ n13_ n14_ n15_; clear hb hbox hg; have hnb75 := NB182_151.out; have hnc75 := NB151_182.out; have hnb76 := NB182_159.out; have hnc76 := NB159_182.out; have hnb77 := NB182_166.out; have hnc77 := NB166_182.out; have hnb78 := NB182_174.out; have hnc78 := NB174_182.out; have hcz79_0 : w74.cell? ⟨gb182, 0, none⟩ = some (.int .i64 0) := (blk_cell BK182.out 0).trans rfl; have hcz79_1 : w74.cell? ⟨gb182, 1, none⟩ = some (.int .i64 0) := (blk_cell BK182.out 1).trans rfl; have hcz79_2 : w74.cell? ⟨gb182, 2, none⟩ = some (.int .i64 0) := (blk_cell BK182.out 2).trans rfl; have hcz79_3 : w74.cell? ⟨gb182, 3, none⟩ = some (.bool false) := (blk_cell BK182.out 3).trans rfl; have hfz79_0 := blk_frozen BK182.out 0; have hfz79_1 := blk_frozen BK182.out 1; have hfz79_2 := blk_frozen BK182.out 2; have hfz79_3 := blk_frozen BK182.out 3; have hnb80 := NB159_166.out; have hnc80 := NB166_159.out; have hnb81 := NB159_174.out; have hnc81 := NB174_159.out; have hcz82_0 : w74.cell? ⟨gb159, 0, none⟩ = some (.int .i64 t152) := (blk_cell BK159.out 0).trans rfl; have hcz82_1 : w74.cell? ⟨gb159, 1, none⟩ = some (.int .i64 t153) := (blk_cell BK159.out 1).trans rfl; have hcz82_2 : w74.cell? ⟨gb159, 2, none⟩ = some (.int .i64 t154) := (blk_cell BK159.out 2).trans rfl; have hcz82_3 : w74.cell? ⟨gb159, 3, none⟩ = some (.bool t155) := (blk_cell BK159.out 3).trans rfl; have hfz82_0 := blk_frozen BK159.out 0; have hfz82_1 := blk_frozen BK159.out 1; have hfz82_2 := blk_frozen BK159.out 2; have hfz82_3 := blk_frozen BK159.out 3; have hcz83_0 : w74.cell? ⟨gb151, 0, none⟩ = some (.int .i64 a0_0) := (blk_cell BK151.out 0).trans rfl; have hcz83_1 : w74.cell? ⟨gb151, 1, none⟩ = some (.int .i64 a0_1) := (blk_cell BK151.out 1).trans rfl; have hcz83_2 : w74.cell? ⟨gb151, 2, none⟩ = some (.int .i64 a0_2) := (blk_cell BK151.out 2).trans rfl; have hcz83_3 : w74.cell? ⟨gb151, 3, none⟩ = some (.bool a0_3) := (blk_cell BK151.out 3).trans rfl; have hfz83_0 := blk_frozen BK151.out 0; have hfz83_1 := blk_frozen BK151.out 1; have hfz83_2 := blk_frozen BK151.out 2; have hfz83_3 := blk_frozen BK151.out 3) | (go_at_call 11; (with_reducible refine (withylaw16_awake.calls kj8  t183 _ A68.out).mono ?_); rintro e w84 ⟨rfl, hb⟩; have n0_ := Aside0.mk (blk_below (g := gb151) (o := .cells #[.int .i64 a0_0, .int .i64 a0_1, .int .i64 a0_2, .bool a0_3] 23 (0, 0)) (by (with_reducible repeat (first | refine blk_drewN ?_ _ | refine blk_drew ?_ | refine blk_alloc ?_ _)); refine blk_far ?_ NB151_182.out _; (with_reducible repeat (first | refine blk_drewN ?_ _ | refine blk_drew ?_ | refine blk_alloc ?_ _)); refine blk_far ?_ NB151_182.out _; (with_reducible repeat (first | refine blk_drewN ?_ _ | refine blk_drew ?_ | refine blk_alloc ?_ _)); refine blk_far ?_ NB151_182.out _; (with_reducible repeat (first | refine blk_drewN ?_ _ | refine blk_drew ?_ | refine blk_alloc ?_ _)); refine blk_far ?_ NB151_182.out _; (with_reducible repeat (first | refine blk_drewN ?_ _ | refine blk_drew ?_ | refine blk_alloc ?_ _)); exact BK151.out) hb); have n1_ := Aside0.mk (blk_below (g := gb159) (o := .cells #[.int .i64 t152, .int .i64 t153, .int .i64 t154, .bool t155] 23 (0, 0)) (by (with_reducible repeat (first | refine blk_drewN ?_ _ | refine blk_drew ?_ | refine blk_alloc ?_ _)); refine blk_far ?_ NB159_182.out _; (with_reducible repeat (first | refine blk_drewN ?_ _ | refine blk_drew ?_ | refine blk_alloc ?_ _)); refine blk_far ?_ NB159_182.out _; (with_reducible repeat (first | refine blk_drewN ?_ _ | refine blk_drew ?_ | refine blk_alloc ?_ _)); refine blk_far ?_ NB159_182.out _; (with_reducible repeat (first | refine blk_drewN ?_ _ | refine blk_drew ?_ | refine blk_alloc ?_ _)); refine blk_far ?_ NB159_182.out _; (with_reducible repeat (first | refine blk_drewN ?_ _ | refine blk_drew ?_ | refine blk_alloc ?_ _)); exact BK159.out) hb); have n2_ := Aside0.mk (blk_below (g := gb166) (o := .cells #[.int .i64 t160, .int .i64 t161, .int .i64 t162, .bool t163] 23 (0, 0)) (by (with_reducible repeat (first | refine blk_drewN ?_ _ | refine blk_drew ?_ | refine blk_alloc ?_ _)); refine blk_far ?_ NB166_182.out _; (with_reducible repeat (first | refine blk_drewN ?_ _ | refine blk_drew ?_ | refine blk_alloc ?_ _)); refine blk_far ?_ NB166_182.out _; (with_reducible repeat (first | refine blk_drewN ?_ _ | refine blk_drew ?_ | refine blk_alloc ?_ _)); refine blk_far ?_ NB166_182.out _; (with_reducible repeat (first | refine blk_drewN ?_ _ | refine blk_drew ?_ | refine blk_alloc ?_ _)); refine blk_far ?_ NB166_182.out _; (with_reducible repeat (first | refine blk_drewN ?_ _ | refine blk_drew ?_ | refine blk_alloc ?_ _)); exact BK166.out) hb); have n3_ := Aside0.mk (blk_below (g := gb174) (o := .cells #[.int .i64 t169, .int .i64 t170, .int .i64 t171, .bool t172] 23 (0, 0)) (by (with_reducible repeat (first | refine blk_drewN ?_ _ | refine blk_drew ?_ | refine blk_alloc ?_ _)); refine blk_far ?_ NB174_182.out _; (with_reducible repeat (first | refine blk_drewN ?_ _ | refine blk_drew ?_ | refine blk_alloc ?_ _)); refine blk_far ?_ NB174_182.out _; (with_reducible repeat (first | refine blk_drewN ?_ _ | refine blk_drew ?_ | refine blk_alloc ?_ _)); refine blk_far ?_ NB174_182.out _; (with_reducible repeat (first | refine blk_drewN ?_ _ | refine blk_drew ?_ | refine blk_alloc ?_ _)); refine blk_far ?_ NB174_182.out _; (with_reducible repeat (first | refine blk_drewN ?_ _ | refine blk_drew ?_ | refine blk_alloc ?_ _)); exact BK174.out) hb); have n4_ := Aside0.mk (blk_below (g := gb182) (o := .cells #[.int .i64 t176, .int .i64 t177, .int .i64 t178, .bool t179] 23 (0, 0)) (by (with_reducible repeat (first | refine blk_drewN ?_ _ | refine blk_drew ?_ | refine blk_alloc ?_ _)); refine blk_put (cs := #[.int .i64 t176, .int .i64 t177, .int .i64 t178, .bool false]) ?_ 3 _ rfl; (with_reducible repeat (first | refine blk_drewN ?_ _ | refine blk_drew ?_ | refine blk_alloc ?_ _)); refine blk_put (cs := #[.int .i64 t176, .int .i64 t177, .int .i64 0, .bool false]) ?_ 2 _ rfl; (with_reducible repeat (first | refine blk_drewN ?_ _ | refine blk_drew ?_ | refine blk_alloc ?_ _)); refine blk_put (cs := #[.int .i64 t176, .int .i64 0, .int .i64 0, .bool false]) ?_ 1 _ rfl; (with_reducible repeat (first | refine blk_drewN ?_ _ | refine blk_drew ?_ | refine blk_alloc ?_ _)); refine blk_put (cs := #[.int .i64 0, .int .i64 0, .int .i64 0, .bool false]) ?_ 0 _ rfl; (with_reducible repeat (first | refine blk_drewN ?_ _ | refine blk_drew ?_ | refine blk_alloc ?_ _)); exact BK182.out) hb); have n5_ := Aside0.mk (below_step (by repeat (first | (with_reducible first | exact HB.out | apply below_alloc | apply pw_below_drewN | apply below_drew1 | refine below_set ?_ GE151.out | refine below_set ?_ GE159.out | refine below_set ?_ GE166.out | refine below_set ?_ GE174.out | refine below_set ?_ GE182.out) | exact HB.out)) hb); clear BK151; clear BK159; clear BK166; clear BK174; clear BK182; clear HB; have BK151 := n0_; have BK159 := n1_; have BK166 := n2_; have BK174 := n3_; have BK182 := n4_; have HB := n5_; clear n0_ n1_ n2_ n3_ n4_ n5_; (try clear hb); (try clear hb2); (try clear hk); (try clear hi)))
                        go_ret
                        exact ⟨by first | rfl | (simp [errW_none, errW_some] <;> rfl) | (simp [*, errW_none, errW_some] <;> rfl), by repeat (first | (with_reducible first | exact HB.out | apply below_alloc | apply pw_below_drewN | apply below_drew1 | refine below_set ?_ GE151.out | refine below_set ?_ GE159.out | refine below_set ?_ GE166.out | refine below_set ?_ GE174.out | refine below_set ?_ GE182.out) | exact HB.out)⟩
                      · rw [if_neg c67] at H
                        have c67b0 : decide (a0_2 ≤ t154) = false := decide_eq_false c67
                        clear c67
                        exact absurd ((Option.some.inj H).trans HR_.out) (by simp)
                    · rw [if_neg c66] at H
                      have c66b0 : decide (a0_0 ≤ t152) = false := decide_eq_false c66
                      clear c66
                      exact absurd ((Option.some.inj H).trans HR_.out) (by simp)
                  · rw [if_neg c65] at H
                    have c65b0 : (t157 == t181) = false := by simpa using c65
                    (try (have c65b1 : decide (t157 = t181) = false := by simpa using c65))
                    (try (have c65b2 : (t157 == t181) = false := by simpa using c65))
                    (try (have c65b3 : ¬ (t157 = t181) := by simpa using c65))
                    clear c65
                    exact absurd ((Option.some.inj H).trans HR_.out) (by simp)
                · rw [if_neg c64] at H
                  have c64b0 : (t156 == t180) = false := by simpa using c64
                  (try (have c64b1 : decide (t156 = t180) = false := by simpa using c64))
                  (try (have c64b2 : (t156 == t180) = false := by simpa using c64))
                  (try (have c64b3 : ¬ (t156 = t180) := by simpa using c64))
                  clear c64
                  exact absurd ((Option.some.inj H).trans HR_.out) (by simp)
              · rw [if_neg c63] at H
                have c63b0 : (t152 == t176 && (t153 == t177 && (t154 == t178 && (t155 == t179)))) = false := by simpa using c63
                (try (have c63b1 : decide (t152 = t176 && (t153 == t177 && (t154 == t178 && (t155 == t179)))) = false := by simpa using c63))
                (try (have c63b2 : (t152 == t176 && (t153 == t177 && (t154 == t178 && (t155 == t179)))) = false := by simpa using c63))
                (try (have c63b3 : ¬ (t152 = t176 && (t153 == t177 && (t154 == t178 && (t155 == t179)))) := by simpa using c63))
                clear c63
                exact absurd ((Option.some.inj H).trans HR_.out) (by simp)
            · rw [if_neg c62] at H
              have c62b0 : (t158 == 0) = false := beq_eq_false_iff_ne.mpr c62
              have c62b1 : (t158 != 0) = true := bne_iff_ne.mpr c62
              exact absurd ((Option.some.inj H).trans HR_.out) (by simp)
          · replace c60 := Bool.eq_false_iff.mpr c60
            subst c60
            have H1 : (if t158 = 1 then (if t156 = true then (some false) else (if t157 = true then (some false) else (if (t152 == 0 && (t153 == 0 && (t154 == 0 && (!t155)))) = true then ((withylaw16_awake.f kj8).bind fun t184 => (some t184)) else (some false)))) else (some false)) = some r := by rw [if_neg (show ¬ (false = true) by decide)] at H; exact H
            clear H
            have H := H1
            clear H1
            by_cases c85 : t158 = 1
            · rw [if_pos c85] at H
              have c85b0 : (t158 == 1) = true := beq_iff_eq.mpr c85
              have c85b1 : (t158 != 1) = false := bne_eq_false_iff_eq.mpr c85
              clear c85
              by_cases c86 : t156 = true
              · subst c86
                have H1 : (some false) = some r := by rw [if_pos rfl] at H; exact H
                clear H
                have H := H1
                clear H1
                exact absurd ((Option.some.inj H).trans HR_.out) (by simp)
              · replace c86 := Bool.eq_false_iff.mpr c86
                subst c86
                have H1 : (if t157 = true then (some false) else (if (t152 == 0 && (t153 == 0 && (t154 == 0 && (!t155)))) = true then ((withylaw16_awake.f kj8).bind fun t184 => (some t184)) else (some false))) = some r := by rw [if_neg (show ¬ (false = true) by decide)] at H; exact H
                clear H
                have H := H1
                clear H1
                by_cases c87 : t157 = true
                · subst c87
                  have H1 : (some false) = some r := by rw [if_pos rfl] at H; exact H
                  clear H
                  have H := H1
                  clear H1
                  exact absurd ((Option.some.inj H).trans HR_.out) (by simp)
                · replace c87 := Bool.eq_false_iff.mpr c87
                  subst c87
                  have H1 : (if (t152 == 0 && (t153 == 0 && (t154 == 0 && (!t155)))) = true then ((withylaw16_awake.f kj8).bind fun t184 => (some t184)) else (some false)) = some r := by rw [if_neg (show ¬ (false = true) by decide)] at H; exact H
                  clear H
                  have H := H1
                  clear H1
                  by_cases c88 : (t152 == 0 && (t153 == 0 && (t154 == 0 && (!t155)))) = true
                  · rw [if_pos c88] at H
                    have c88b0 : (t152 == 0 && (t153 == 0 && (t154 == 0 && (!t155)))) = true := c88
                    (try (have c88b1 : decide (t152 = 0 && (t153 == 0 && (t154 == 0 && (!t155)))) = true := by simpa using c88))
                    (try (have c88b2 : (t152 == 0 && (t153 == 0 && (t154 == 0 && (!t155)))) = true := by simpa using c88))
                    clear c88
                    replace H := Option.bind_eq_some_iff.mp H
                    obtain ⟨t184, A890, H⟩ := H
                    replace H : (some t184) = some r := H
                    have A89 := Aside0.mk A890
                    clear A890
                    obtain rfl := Option.some.inj H
                    go_wp2_with (first | ((with_reducible refine gate_callee (f := 13) rfl ?_); refine goesL_ (some 95) rfl rfl Try.func13 (by kernel_rfl) rfl #[.int .i64 a2] rfl (by (try simp only [List.map_toArray, List.map_cons, List.map_nil]); first | done | rfl | (simp only [List.length_drop, List.length_take]; rfl)) ?_; (with_reducible refine (withyref16_Limit.calls a2 false _ A59.out).mono ?_); rintro e w' ⟨rfl, ⟨nd, rfl⟩⟩; refine ⟨_, rfl, ?_⟩; have hnb90 := NB159_151.out; have hnc90 := NB151_159.out; have hnb91 := NB159_166.out; have hnc91 := NB166_159.out; have hnb92 := NB159_174.out; have hnc92 := NB174_159.out; have hcz93_0 : wc.cell? ⟨gb159, 0, none⟩ = some (.int .i64 t152) := (blk_cell BK159.out 0).trans rfl; have hcz93_1 : wc.cell? ⟨gb159, 1, none⟩ = some (.int .i64 t153) := (blk_cell BK159.out 1).trans rfl; have hcz93_2 : wc.cell? ⟨gb159, 2, none⟩ = some (.int .i64 t154) := (blk_cell BK159.out 2).trans rfl; have hcz93_3 : wc.cell? ⟨gb159, 3, none⟩ = some (.bool t155) := (blk_cell BK159.out 3).trans rfl; have hfz93_0 := blk_frozen BK159.out 0; have hfz93_1 := blk_frozen BK159.out 1; have hfz93_2 := blk_frozen BK159.out 2; have hfz93_3 := blk_frozen BK159.out 3) | (go_at_call 11; (with_reducible refine (withylaw16_awake.calls kj8  t184 _ A89.out).mono ?_); rintro e w94 ⟨rfl, hb⟩; have n0_ := Aside0.mk (blk_below (g := gb151) (o := .cells #[.int .i64 a0_0, .int .i64 a0_1, .int .i64 a0_2, .bool a0_3] 23 (0, 0)) (by (with_reducible repeat (first | refine blk_drewN ?_ _ | refine blk_drew ?_ | refine blk_alloc ?_ _)); exact BK151.out) hb); have n1_ := Aside0.mk (blk_below (g := gb159) (o := .cells #[.int .i64 t152, .int .i64 t153, .int .i64 t154, .bool t155] 23 (0, 0)) (by (with_reducible repeat (first | refine blk_drewN ?_ _ | refine blk_drew ?_ | refine blk_alloc ?_ _)); exact BK159.out) hb); have n2_ := Aside0.mk (blk_below (g := gb166) (o := .cells #[.int .i64 t160, .int .i64 t161, .int .i64 t162, .bool t163] 23 (0, 0)) (by (with_reducible repeat (first | refine blk_drewN ?_ _ | refine blk_drew ?_ | refine blk_alloc ?_ _)); exact BK166.out) hb); have n3_ := Aside0.mk (blk_below (g := gb174) (o := .cells #[.int .i64 t169, .int .i64 t170, .int .i64 t171, .bool t172] 23 (0, 0)) (by (with_reducible repeat (first | refine blk_drewN ?_ _ | refine blk_drew ?_ | refine blk_alloc ?_ _)); exact BK174.out) hb); have n4_ := Aside0.mk (below_step (by repeat (first | (with_reducible first | exact HB.out | apply below_alloc | apply pw_below_drewN | apply below_drew1 | refine below_set ?_ GE151.out | refine below_set ?_ GE159.out | refine below_set ?_ GE166.out | refine below_set ?_ GE174.out) | exact HB.out)) hb); clear BK151; clear BK159; clear BK166; clear BK174; clear HB; have BK151 := n0_; have BK159 := n1_; have BK166 := n2_; have BK174 := n3_; have HB := n4_; clear n0_ n1_ n2_ n3_ n4_; (try clear hb); (try clear hb2); (try clear hk); (try clear hi)))
                    go_ret
                    exact ⟨by first | rfl | (simp [errW_none, errW_some] <;> rfl) | (simp [*, errW_none, errW_some] <;> rfl), by repeat (first | (with_reducible first | exact HB.out | apply below_alloc | apply pw_below_drewN | apply below_drew1 | refine below_set ?_ GE151.out | refine below_set ?_ GE159.out | refine below_set ?_ GE166.out | refine below_set ?_ GE174.out) | exact HB.out)⟩
                  · rw [if_neg c88] at H
                    have c88b0 : (t152 == 0 && (t153 == 0 && (t154 == 0 && (!t155)))) = false := by simpa using c88
                    (try (have c88b1 : decide (t152 = 0 && (t153 == 0 && (t154 == 0 && (!t155)))) = false := by simpa using c88))
                    (try (have c88b2 : (t152 == 0 && (t153 == 0 && (t154 == 0 && (!t155)))) = false := by simpa using c88))
                    (try (have c88b3 : ¬ (t152 = 0 && (t153 == 0 && (t154 == 0 && (!t155)))) := by simpa using c88))
                    clear c88
                    exact absurd ((Option.some.inj H).trans HR_.out) (by simp)
            · rw [if_neg c85] at H
              have c85b0 : (t158 == 1) = false := beq_eq_false_iff_ne.mpr c85
              have c85b1 : (t158 != 1) = true := bne_iff_ne.mpr c85
              exact absurd ((Option.some.inj H).trans HR_.out) (by simp)
  · replace c7 := Bool.eq_false_iff.mpr c7
    subst c7
    have H1 : (if t158 = 1 then (if t165 = 1 then (if t156 = true then (some false) else (if t157 = true then (some false) else (if t164 = true then (some false) else (if (t152 == 0 && (t153 == 0 && (t154 == 0 && (!t155)))) = true then (if (t160 == 0 && (t161 == 0 && (t162 == 0 && (!t163)))) = true then ((withylaw16_awake.f k).bind fun t168 => (some t168)) else (some false)) else (some false))))) else (some false)) else (some false)) = some r := by rw [if_neg (show ¬ (false = true) by decide)] at H; exact H
    clear H
    have H := H1
    clear H1
    by_cases c95 : t158 = 1
    · rw [if_pos c95] at H
      have c95b0 : (t158 == 1) = true := beq_iff_eq.mpr c95
      have c95b1 : (t158 != 1) = false := bne_eq_false_iff_eq.mpr c95
      clear c95
      by_cases c96 : t165 = 1
      · rw [if_pos c96] at H
        have c96b0 : (t165 == 1) = true := beq_iff_eq.mpr c96
        have c96b1 : (t165 != 1) = false := bne_eq_false_iff_eq.mpr c96
        clear c96
        by_cases c97 : t156 = true
        · subst c97
          have H1 : (some false) = some r := by rw [if_pos rfl] at H; exact H
          clear H
          have H := H1
          clear H1
          exact absurd ((Option.some.inj H).trans HR_.out) (by simp)
        · replace c97 := Bool.eq_false_iff.mpr c97
          subst c97
          have H1 : (if t157 = true then (some false) else (if t164 = true then (some false) else (if (t152 == 0 && (t153 == 0 && (t154 == 0 && (!t155)))) = true then (if (t160 == 0 && (t161 == 0 && (t162 == 0 && (!t163)))) = true then ((withylaw16_awake.f k).bind fun t168 => (some t168)) else (some false)) else (some false)))) = some r := by rw [if_neg (show ¬ (false = true) by decide)] at H; exact H
          clear H
          have H := H1
          clear H1
          by_cases c98 : t157 = true
          · subst c98
            have H1 : (some false) = some r := by rw [if_pos rfl] at H; exact H
            clear H
            have H := H1
            clear H1
            exact absurd ((Option.some.inj H).trans HR_.out) (by simp)
          · replace c98 := Bool.eq_false_iff.mpr c98
            subst c98
            have H1 : (if t164 = true then (some false) else (if (t152 == 0 && (t153 == 0 && (t154 == 0 && (!t155)))) = true then (if (t160 == 0 && (t161 == 0 && (t162 == 0 && (!t163)))) = true then ((withylaw16_awake.f k).bind fun t168 => (some t168)) else (some false)) else (some false))) = some r := by rw [if_neg (show ¬ (false = true) by decide)] at H; exact H
            clear H
            have H := H1
            clear H1
            by_cases c99 : t164 = true
            · subst c99
              have H1 : (some false) = some r := by rw [if_pos rfl] at H; exact H
              clear H
              have H := H1
              clear H1
              exact absurd ((Option.some.inj H).trans HR_.out) (by simp)
            · replace c99 := Bool.eq_false_iff.mpr c99
              subst c99
              have H1 : (if (t152 == 0 && (t153 == 0 && (t154 == 0 && (!t155)))) = true then (if (t160 == 0 && (t161 == 0 && (t162 == 0 && (!t163)))) = true then ((withylaw16_awake.f k).bind fun t168 => (some t168)) else (some false)) else (some false)) = some r := by rw [if_neg (show ¬ (false = true) by decide)] at H; exact H
              clear H
              have H := H1
              clear H1
              by_cases c100 : (t152 == 0 && (t153 == 0 && (t154 == 0 && (!t155)))) = true
              · rw [if_pos c100] at H
                have c100b0 : (t152 == 0 && (t153 == 0 && (t154 == 0 && (!t155)))) = true := c100
                (try (have c100b1 : decide (t152 = 0 && (t153 == 0 && (t154 == 0 && (!t155)))) = true := by simpa using c100))
                (try (have c100b2 : (t152 == 0 && (t153 == 0 && (t154 == 0 && (!t155)))) = true := by simpa using c100))
                clear c100
                by_cases c101 : (t160 == 0 && (t161 == 0 && (t162 == 0 && (!t163)))) = true
                · rw [if_pos c101] at H
                  have c101b0 : (t160 == 0 && (t161 == 0 && (t162 == 0 && (!t163)))) = true := c101
                  (try (have c101b1 : decide (t160 = 0 && (t161 == 0 && (t162 == 0 && (!t163)))) = true := by simpa using c101))
                  (try (have c101b2 : (t160 == 0 && (t161 == 0 && (t162 == 0 && (!t163)))) = true := by simpa using c101))
                  clear c101
                  replace H := Option.bind_eq_some_iff.mp H
                  obtain ⟨t168, A1020, H⟩ := H
                  replace H : (some t168) = some r := H
                  have A102 := Aside0.mk A1020
                  clear A1020
                  obtain rfl := Option.some.inj H
                  go_enter Try.func3, Try.ntmps3
                  go_wp2_with (first | ((with_reducible refine gate_dst (N := 3) rfl ?_); refine box_event ?hg (N := 3) ?hd (cs := #[.int .i64 a0_0, .int .i64 a0_1, .int .i64 a0_2, .bool a0_3]) (t := 23) ?hr ?_; (case hd => rfl); (case hg => rfl); (case hr => first | (go_simp; done) | (go_simp; rfl)); intro gb151 hg w103 hbox hb; have n0_ := Aside0.mk (below_step (by repeat (first | (with_reducible first | exact HB.out | apply below_alloc | apply pw_below_drewN | apply below_drew1) | exact HB.out)) hb); have n1_ := Aside0.mk (hbox); have n2_ := Aside0.mk ((by rw [hg]; exact (below_size (by repeat (first | (with_reducible first | exact HB.out | apply below_alloc | apply pw_below_drewN | apply below_drew1) | exact HB.out))) : w.heap.size ≤ gb151)); have n3_ := Aside0.mk ((by rw [hg]; exact (below_size (by repeat (first | (with_reducible first | exact HB.out | apply below_alloc | apply pw_below_drewN | apply below_drew1) | exact HB.out))) : w.heap.size ≤ gb151)); clear HB; have HB := n0_; have BK151 := n1_; have GW151 := n2_; have GE151 := n3_; clear n0_ n1_ n2_ n3_; clear hb hbox hg; have hcz104_0 : w103.cell? ⟨gb151, 0, none⟩ = some (.int .i64 a0_0) := (blk_cell BK151.out 0).trans rfl; have hcz104_1 : w103.cell? ⟨gb151, 1, none⟩ = some (.int .i64 a0_1) := (blk_cell BK151.out 1).trans rfl; have hcz104_2 : w103.cell? ⟨gb151, 2, none⟩ = some (.int .i64 a0_2) := (blk_cell BK151.out 2).trans rfl; have hcz104_3 : w103.cell? ⟨gb151, 3, none⟩ = some (.bool a0_3) := (blk_cell BK151.out 3).trans rfl; have hfz104_0 := blk_frozen BK151.out 0; have hfz104_1 := blk_frozen BK151.out 1; have hfz104_2 := blk_frozen BK151.out 2; have hfz104_3 := blk_frozen BK151.out 3) | ((with_reducible refine gate_callee (f := 8) rfl ?_); refine goesL_ (some 23) rfl rfl Try.func8 (by kernel_rfl) rfl #[.agg #[.int .i64 a0_0, .int .i64 a0_1, .int .i64 a0_2, .bool a0_3], .int .i64 a1, .int .i64 a2] rfl (by (try simp only [List.map_toArray, List.map_cons, List.map_nil]); first | done | rfl | (simp only [List.length_drop, List.length_take]; rfl)) ?_; (with_reducible refine (hand_Hello.calls k a0_0 a0_1 a0_2 a0_3 a1 a2 t152 t153 t154 t155 false false t158 _ A4.out).mono ?_); rintro e w105 ⟨rfl, hb⟩; refine ⟨_, rfl, ?_⟩; have n0_ := Aside0.mk (blk_below (g := gb151) (o := .cells #[.int .i64 a0_0, .int .i64 a0_1, .int .i64 a0_2, .bool a0_3] 23 (0, 0)) (by (with_reducible repeat (first | refine blk_drewN ?_ _ | refine blk_drew ?_ | refine blk_alloc ?_ _)); exact BK151.out) hb); have n1_ := Aside0.mk (below_step (by repeat (first | (with_reducible first | exact HB.out | apply below_alloc | apply pw_below_drewN | apply below_drew1 | refine below_set ?_ GE151.out) | exact HB.out)) hb); clear BK151; clear HB; have BK151 := n0_; have HB := n1_; clear n0_ n1_; (try clear hb); (try clear hb2); (try clear hk); (try clear hi)) | ((with_reducible refine gate_dst (N := 7) rfl ?_); refine box_event ?hg (N := 7) ?hd (cs := #[.int .i64 0, .int .i64 0, .int .i64 0, .bool false]) (t := 23) ?hr ?_; (case hd => rfl); (case hg => rfl); (case hr => first | (go_simp; done) | (go_simp; rfl)); intro gb159 hg w106 hbox hb; have n0_ := Aside0.mk (blk_below (g := gb151) (o := .cells #[.int .i64 a0_0, .int .i64 a0_1, .int .i64 a0_2, .bool a0_3] 23 (0, 0)) (by (with_reducible repeat (first | refine blk_drewN ?_ _ | refine blk_drew ?_ | refine blk_alloc ?_ _)); exact BK151.out) hb); have n1_ := Aside0.mk (below_step (by repeat (first | (with_reducible first | exact HB.out | apply below_alloc | apply pw_below_drewN | apply below_drew1 | refine below_set ?_ GE151.out) | exact HB.out)) hb); have n2_ := Aside0.mk (hbox); have n3_ := Aside0.mk ((by rw [hg]; exact (below_size (by repeat (first | (with_reducible first | exact HB.out | apply below_alloc | apply pw_below_drewN | apply below_drew1 | refine below_set ?_ GE151.out) | exact HB.out))) : w.heap.size ≤ gb159)); have n4_ := Aside0.mk ((by rw [hg]; exact (below_size (by repeat (first | (with_reducible first | exact HB.out | apply below_alloc | apply pw_below_drewN | apply below_drew1 | refine below_set ?_ GE151.out) | exact HB.out))) : w.heap.size ≤ gb159)); have n5_ := Aside0.mk ((by rw [hg]; exact Nat.ne_of_lt (blk_lt (g := gb151) (o := .cells #[.int .i64 a0_0, .int .i64 a0_1, .int .i64 a0_2, .bool a0_3] 23 (0, 0)) (by (with_reducible repeat (first | refine blk_drewN ?_ _ | refine blk_drew ?_ | refine blk_alloc ?_ _)); exact BK151.out)) : gb151 ≠ gb159)); have n6_ := Aside0.mk ((by rw [hg]; exact Nat.ne_of_gt (blk_lt (g := gb151) (o := .cells #[.int .i64 a0_0, .int .i64 a0_1, .int .i64 a0_2, .bool a0_3] 23 (0, 0)) (by (with_reducible repeat (first | refine blk_drewN ?_ _ | refine blk_drew ?_ | refine blk_alloc ?_ _)); exact BK151.out)) : gb159 ≠ gb151)); clear BK151; clear HB; have BK151 := n0_; have HB := n1_; have BK159 := n2_; have GW159 := n3_; have GE159 := n4_; have NB151_159 := n5_; have NB159_151 := n6_; clear n0_ n1_ n2_ n3_ n4_ n5_ n6_; clear hb hbox hg; have hnb107 := NB159_151.out; have hnc107 := NB151_159.out; have hcz108_0 : w106.cell? ⟨gb159, 0, none⟩ = some (.int .i64 0) := (blk_cell BK159.out 0).trans rfl; have hcz108_1 : w106.cell? ⟨gb159, 1, none⟩ = some (.int .i64 0) := (blk_cell BK159.out 1).trans rfl; have hcz108_2 : w106.cell? ⟨gb159, 2, none⟩ = some (.int .i64 0) := (blk_cell BK159.out 2).trans rfl; have hcz108_3 : w106.cell? ⟨gb159, 3, none⟩ = some (.bool false) := (blk_cell BK159.out 3).trans rfl; have hfz108_0 := blk_frozen BK159.out 0; have hfz108_1 := blk_frozen BK159.out 1; have hfz108_2 := blk_frozen BK159.out 2; have hfz108_3 := blk_frozen BK159.out 3; have hcz109_0 : w106.cell? ⟨gb151, 0, none⟩ = some (.int .i64 a0_0) := (blk_cell BK151.out 0).trans rfl; have hcz109_1 : w106.cell? ⟨gb151, 1, none⟩ = some (.int .i64 a0_1) := (blk_cell BK151.out 1).trans rfl; have hcz109_2 : w106.cell? ⟨gb151, 2, none⟩ = some (.int .i64 a0_2) := (blk_cell BK151.out 2).trans rfl; have hcz109_3 : w106.cell? ⟨gb151, 3, none⟩ = some (.bool a0_3) := (blk_cell BK151.out 3).trans rfl; have hfz109_0 := blk_frozen BK151.out 0; have hfz109_1 := blk_frozen BK151.out 1; have hfz109_2 := blk_frozen BK151.out 2; have hfz109_3 := blk_frozen BK151.out 3) | ((with_reducible refine gate_callee (f := 9) rfl ?_); refine goesL_ (some 31) rfl rfl Try.func9 (by kernel_rfl) rfl #[.agg #[.int .i64 a0_0, .int .i64 a0_1, .int .i64 a0_2, .bool a0_3], .int .i64 a1] rfl (by (try simp only [List.map_toArray, List.map_cons, List.map_nil]); first | done | rfl | (simp only [List.length_drop, List.length_take]; rfl)) ?_; (with_reducible refine (hand_Welcome.calls a0_0 a0_1 a0_2 a0_3 a1 t160 t161 t162 t163 false t165 _ A5.out).mono ?_); rintro e w110 ⟨rfl, hb⟩; refine ⟨_, rfl, ?_⟩; have n0_ := Aside0.mk (blk_below (g := gb151) (o := .cells #[.int .i64 a0_0, .int .i64 a0_1, .int .i64 a0_2, .bool a0_3] 23 (0, 0)) (by (with_reducible repeat (first | refine blk_drewN ?_ _ | refine blk_drew ?_ | refine blk_alloc ?_ _)); refine blk_far ?_ NB151_159.out _; (with_reducible repeat (first | refine blk_drewN ?_ _ | refine blk_drew ?_ | refine blk_alloc ?_ _)); refine blk_far ?_ NB151_159.out _; (with_reducible repeat (first | refine blk_drewN ?_ _ | refine blk_drew ?_ | refine blk_alloc ?_ _)); refine blk_far ?_ NB151_159.out _; (with_reducible repeat (first | refine blk_drewN ?_ _ | refine blk_drew ?_ | refine blk_alloc ?_ _)); refine blk_far ?_ NB151_159.out _; (with_reducible repeat (first | refine blk_drewN ?_ _ | refine blk_drew ?_ | refine blk_alloc ?_ _)); exact BK151.out) hb); have n1_ := Aside0.mk (blk_below (g := gb159) (o := .cells #[.int .i64 t152, .int .i64 t153, .int .i64 t154, .bool t155] 23 (0, 0)) (by (with_reducible repeat (first | refine blk_drewN ?_ _ | refine blk_drew ?_ | refine blk_alloc ?_ _)); refine blk_put (cs := #[.int .i64 t152, .int .i64 t153, .int .i64 t154, .bool false]) ?_ 3 _ rfl; (with_reducible repeat (first | refine blk_drewN ?_ _ | refine blk_drew ?_ | refine blk_alloc ?_ _)); refine blk_put (cs := #[.int .i64 t152, .int .i64 t153, .int .i64 0, .bool false]) ?_ 2 _ rfl; (with_reducible repeat (first | refine blk_drewN ?_ _ | refine blk_drew ?_ | refine blk_alloc ?_ _)); refine blk_put (cs := #[.int .i64 t152, .int .i64 0, .int .i64 0, .bool false]) ?_ 1 _ rfl; (with_reducible repeat (first | refine blk_drewN ?_ _ | refine blk_drew ?_ | refine blk_alloc ?_ _)); refine blk_put (cs := #[.int .i64 0, .int .i64 0, .int .i64 0, .bool false]) ?_ 0 _ rfl; (with_reducible repeat (first | refine blk_drewN ?_ _ | refine blk_drew ?_ | refine blk_alloc ?_ _)); exact BK159.out) hb); have n2_ := Aside0.mk (below_step (by repeat (first | (with_reducible first | exact HB.out | apply below_alloc | apply pw_below_drewN | apply below_drew1 | refine below_set ?_ GE151.out | refine below_set ?_ GE159.out) | exact HB.out)) hb); clear BK151; clear BK159; clear HB; have BK151 := n0_; have BK159 := n1_; have HB := n2_; clear n0_ n1_ n2_; (try clear hb); (try clear hb2); (try clear hk); (try clear hi)) | ((with_reducible refine gate_dst (N := 11) rfl ?_); refine box_event ?hg (N := 11) ?hd (cs := #[.int .i64 0, .int .i64 0, .int .i64 0, .bool false]) (t := 23) ?hr ?_; (case hd => rfl); (case hg => rfl); (case hr => first | (go_simp; done) | (go_simp; rfl)); intro gb166 hg w111 hbox hb; have n0_ := Aside0.mk (blk_below (g := gb151) (o := .cells #[.int .i64 a0_0, .int .i64 a0_1, .int .i64 a0_2, .bool a0_3] 23 (0, 0)) (by (with_reducible repeat (first | refine blk_drewN ?_ _ | refine blk_drew ?_ | refine blk_alloc ?_ _)); exact BK151.out) hb); have n1_ := Aside0.mk (blk_below (g := gb159) (o := .cells #[.int .i64 t152, .int .i64 t153, .int .i64 t154, .bool t155] 23 (0, 0)) (by (with_reducible repeat (first | refine blk_drewN ?_ _ | refine blk_drew ?_ | refine blk_alloc ?_ _)); exact BK159.out) hb); have n2_ := Aside0.mk (below_step (by repeat (first | (with_reducible first | exact HB.out | apply below_alloc | apply pw_below_drewN | apply below_drew1 | refine below_set ?_ GE151.out | refine below_set ?_ GE159.out) | exact HB.out)) hb); have n3_ := Aside0.mk (hbox); have n4_ := Aside0.mk ((by rw [hg]; exact (below_size (by repeat (first | (with_reducible first | exact HB.out | apply below_alloc | apply pw_below_drewN | apply below_drew1 | refine below_set ?_ GE151.out | refine below_set ?_ GE159.out) | exact HB.out))) : w.heap.size ≤ gb166)); have n5_ := Aside0.mk ((by rw [hg]; exact (below_size (by repeat (first | (with_reducible first | exact HB.out | apply below_alloc | apply pw_below_drewN | apply below_drew1 | refine below_set ?_ GE151.out | refine below_set ?_ GE159.out) | exact HB.out))) : w.heap.size ≤ gb166)); have n6_ := Aside0.mk ((by rw [hg]; exact Nat.ne_of_lt (blk_lt (g := gb151) (o := .cells #[.int .i64 a0_0, .int .i64 a0_1, .int .i64 a0_2, .bool a0_3] 23 (0, 0)) (by (with_reducible repeat (first | refine blk_drewN ?_ _ | refine blk_drew ?_ | refine blk_alloc ?_ _)); exact BK151.out)) : gb151 ≠ gb166)); have n7_ := Aside0.mk ((by rw [hg]; exact Nat.ne_of_gt (blk_lt (g := gb151) (o := .cells #[.int .i64 a0_0, .int .i64 a0_1, .int .i64 a0_2, .bool a0_3] 23 (0, 0)) (by (with_reducible repeat (first | refine blk_drewN ?_ _ | refine blk_drew ?_ | refine blk_alloc ?_ _)); exact BK151.out)) : gb166 ≠ gb151)); have n8_ := Aside0.mk ((by rw [hg]; exact Nat.ne_of_lt (blk_lt (g := gb159) (o := .cells #[.int .i64 t152, .int .i64 t153, .int .i64 t154, .bool t155] 23 (0, 0)) (by (with_reducible repeat (first | refine blk_drewN ?_ _ | refine blk_drew ?_ | refine blk_alloc ?_ _)); exact BK159.out)) : gb159 ≠ gb166)); have n9_ := Aside0.mk ((by rw [hg]; exact Nat.ne_of_gt (blk_lt (g := gb159) (o := .cells #[.int .i64 t152, .int .i64 t153, .int .i64 t154, .bool t155] 23 (0, 0)) (by (with_reducible repeat (first | refine blk_drewN ?_ _ | refine blk_drew ?_ | refine blk_alloc ?_ _)); exact BK159.out)) : gb166 ≠ gb159)); clear BK151; clear BK159; clear HB; have BK151 := n0_; have BK159 := n1_; have HB := n2_; have BK166 := n3_; have GW166 := n4_; have GE166 := n5_; have NB151_166 := n6_; have NB166_151 := n7_; have NB159_166 := n8_; have NB166_159 := n9_; clear n0_ n1_ n2_ n3_ n4_ n5_ n6_ n7_ n8_ n9_; clear hb hbox hg; have hnb112 := NB166_151.out; have hnc112 := NB151_166.out; have hnb113 := NB166_159.out; have hnc113 := NB159_166.out; have hcz114_0 : w111.cell? ⟨gb166, 0, none⟩ = some (.int .i64 0) := (blk_cell BK166.out 0).trans rfl; have hcz114_1 : w111.cell? ⟨gb166, 1, none⟩ = some (.int .i64 0) := (blk_cell BK166.out 1).trans rfl; have hcz114_2 : w111.cell? ⟨gb166, 2, none⟩ = some (.int .i64 0) := (blk_cell BK166.out 2).trans rfl; have hcz114_3 : w111.cell? ⟨gb166, 3, none⟩ = some (.bool false) := (blk_cell BK166.out 3).trans rfl; have hfz114_0 := blk_frozen BK166.out 0; have hfz114_1 := blk_frozen BK166.out 1; have hfz114_2 := blk_frozen BK166.out 2; have hfz114_3 := blk_frozen BK166.out 3; have hcz115_0 : w111.cell? ⟨gb151, 0, none⟩ = some (.int .i64 a0_0) := (blk_cell BK151.out 0).trans rfl; have hcz115_1 : w111.cell? ⟨gb151, 1, none⟩ = some (.int .i64 a0_1) := (blk_cell BK151.out 1).trans rfl; have hcz115_2 : w111.cell? ⟨gb151, 2, none⟩ = some (.int .i64 a0_2) := (blk_cell BK151.out 2).trans rfl; have hcz115_3 : w111.cell? ⟨gb151, 3, none⟩ = some (.bool a0_3) := (blk_cell BK151.out 3).trans rfl; have hfz115_0 := blk_frozen BK151.out 0; have hfz115_1 := blk_frozen BK151.out 1; have hfz115_2 := blk_frozen BK151.out 2; have hfz115_3 := blk_frozen BK151.out 3) | ((with_reducible refine gate_callee (f := 10) rfl ?_); refine goesL_ (some 36) rfl rfl Try.func10 (by kernel_rfl) rfl #[.agg #[.int .i64 a0_0, .int .i64 a0_1, .int .i64 a0_2, .bool a0_3]] rfl (by (try simp only [List.map_toArray, List.map_cons, List.map_nil]); first | done | rfl | (simp only [List.length_drop, List.length_take]; rfl)) ?_; (with_reducible refine (withyref16_May.calls k a0_0 a0_1 a0_2 a0_3 false _ A6.out).mono ?_); rintro e w116 ⟨rfl, hb⟩; refine ⟨_, rfl, ?_⟩; have n0_ := Aside0.mk (blk_below (g := gb151) (o := .cells #[.int .i64 a0_0, .int .i64 a0_1, .int .i64 a0_2, .bool a0_3] 23 (0, 0)) (by (with_reducible repeat (first | refine blk_drewN ?_ _ | refine blk_drew ?_ | refine blk_alloc ?_ _)); refine blk_far ?_ NB151_166.out _; (with_reducible repeat (first | refine blk_drewN ?_ _ | refine blk_drew ?_ | refine blk_alloc ?_ _)); refine blk_far ?_ NB151_166.out _; (with_reducible repeat (first | refine blk_drewN ?_ _ | refine blk_drew ?_ | refine blk_alloc ?_ _)); refine blk_far ?_ NB151_166.out _; (with_reducible repeat (first | refine blk_drewN ?_ _ | refine blk_drew ?_ | refine blk_alloc ?_ _)); refine blk_far ?_ NB151_166.out _; (with_reducible repeat (first | refine blk_drewN ?_ _ | refine blk_drew ?_ | refine blk_alloc ?_ _)); exact BK151.out) hb); have n1_ := Aside0.mk (blk_below (g := gb159) (o := .cells #[.int .i64 t152, .int .i64 t153, .int .i64 t154, .bool t155] 23 (0, 0)) (by (with_reducible repeat (first | refine blk_drewN ?_ _ | refine blk_drew ?_ | refine blk_alloc ?_ _)); refine blk_far ?_ NB159_166.out _; (with_reducible repeat (first | refine blk_drewN ?_ _ | refine blk_drew ?_ | refine blk_alloc ?_ _)); refine blk_far ?_ NB159_166.out _; (with_reducible repeat (first | refine blk_drewN ?_ _ | refine blk_drew ?_ | refine blk_alloc ?_ _)); refine blk_far ?_ NB159_166.out _; (with_reducible repeat (first | refine blk_drewN ?_ _ | refine blk_drew ?_ | refine blk_alloc ?_ _)); refine blk_far ?_ NB159_166.out _; (with_reducible repeat (first | refine blk_drewN ?_ _ | refine blk_drew ?_ | refine blk_alloc ?_ _)); exact BK159.out) hb); have n2_ := Aside0.mk (blk_below (g := gb166) (o := .cells #[.int .i64 t160, .int .i64 t161, .int .i64 t162, .bool t163] 23 (0, 0)) (by (with_reducible repeat (first | refine blk_drewN ?_ _ | refine blk_drew ?_ | refine blk_alloc ?_ _)); refine blk_put (cs := #[.int .i64 t160, .int .i64 t161, .int .i64 t162, .bool false]) ?_ 3 _ rfl; (with_reducible repeat (first | refine blk_drewN ?_ _ | refine blk_drew ?_ | refine blk_alloc ?_ _)); refine blk_put (cs := #[.int .i64 t160, .int .i64 t161, .int .i64 0, .bool false]) ?_ 2 _ rfl; (with_reducible repeat (first | refine blk_drewN ?_ _ | refine blk_drew ?_ | refine blk_alloc ?_ _)); refine blk_put (cs := #[.int .i64 t160, .int .i64 0, .int .i64 0, .bool false]) ?_ 1 _ rfl; (with_reducible repeat (first | refine blk_drewN ?_ _ | refine blk_drew ?_ | refine blk_alloc ?_ _)); refine blk_put (cs := #[.int .i64 0, .int .i64 0, .int .i64 0, .bool false]) ?_ 0 _ rfl; (with_reducible repeat (first | refine blk_drewN ?_ _ | refine blk_drew ?_ | refine blk_alloc ?_ _)); exact BK166.out) hb); have n3_ := Aside0.mk (below_step (by repeat (first | (with_reducible first | exact HB.out | apply below_alloc | apply pw_below_drewN | apply below_drew1 | refine below_set ?_ GE151.out | refine below_set ?_ GE159.out | refine below_set ?_ GE166.out) | exact HB.out)) hb); clear BK151; clear BK159; clear BK166; clear HB; have BK151 := n0_; have BK159 := n1_; have BK166 := n2_; have HB := n3_; clear n0_ n1_ n2_ n3_; (try clear hb); (try clear hb2); (try clear hk); (try clear hi); have hcz117_0 : w116.cell? ⟨gb159, 0, none⟩ = some (.int .i64 t152) := (blk_cell BK159.out 0).trans rfl; have hcz117_1 : w116.cell? ⟨gb159, 1, none⟩ = some (.int .i64 t153) := (blk_cell BK159.out 1).trans rfl; have hcz117_2 : w116.cell? ⟨gb159, 2, none⟩ = some (.int .i64 t154) := (blk_cell BK159.out 2).trans rfl; have hcz117_3 : w116.cell? ⟨gb159, 3, none⟩ = some (.bool t155) := (blk_cell BK159.out 3).trans rfl; have hfz117_0 := blk_frozen BK159.out 0; have hfz117_1 := blk_frozen BK159.out 1; have hfz117_2 := blk_frozen BK159.out 2; have hfz117_3 := blk_frozen BK159.out 3; have hcz118_0 : w116.cell? ⟨gb166, 0, none⟩ = some (.int .i64 t160) := (blk_cell BK166.out 0).trans rfl; have hcz118_1 : w116.cell? ⟨gb166, 1, none⟩ = some (.int .i64 t161) := (blk_cell BK166.out 1).trans rfl; have hcz118_2 : w116.cell? ⟨gb166, 2, none⟩ = some (.int .i64 t162) := (blk_cell BK166.out 2).trans rfl; have hcz118_3 : w116.cell? ⟨gb166, 3, none⟩ = some (.bool t163) := (blk_cell BK166.out 3).trans rfl; have hfz118_0 := blk_frozen BK166.out 0; have hfz118_1 := blk_frozen BK166.out 1; have hfz118_2 := blk_frozen BK166.out 2; have hfz118_3 := blk_frozen BK166.out 3) | (go_at_call 11; (with_reducible refine (withylaw16_awake.calls k  t168 _ A102.out).mono ?_); rintro e w119 ⟨rfl, hb⟩; have n0_ := Aside0.mk (blk_below (g := gb151) (o := .cells #[.int .i64 a0_0, .int .i64 a0_1, .int .i64 a0_2, .bool a0_3] 23 (0, 0)) (by (with_reducible repeat (first | refine blk_drewN ?_ _ | refine blk_drew ?_ | refine blk_alloc ?_ _)); exact BK151.out) hb); have n1_ := Aside0.mk (blk_below (g := gb159) (o := .cells #[.int .i64 t152, .int .i64 t153, .int .i64 t154, .bool t155] 23 (0, 0)) (by (with_reducible repeat (first | refine blk_drewN ?_ _ | refine blk_drew ?_ | refine blk_alloc ?_ _)); exact BK159.out) hb); have n2_ := Aside0.mk (blk_below (g := gb166) (o := .cells #[.int .i64 t160, .int .i64 t161, .int .i64 t162, .bool t163] 23 (0, 0)) (by (with_reducible repeat (first | refine blk_drewN ?_ _ | refine blk_drew ?_ | refine blk_alloc ?_ _)); exact BK166.out) hb); have n3_ := Aside0.mk (below_step (by repeat (first | (with_reducible first | exact HB.out | apply below_alloc | apply pw_below_drewN | apply below_drew1 | refine below_set ?_ GE151.out | refine below_set ?_ GE159.out | refine below_set ?_ GE166.out) | exact HB.out)) hb); clear BK151; clear BK159; clear BK166; clear HB; have BK151 := n0_; have BK159 := n1_; have BK166 := n2_; have HB := n3_; clear n0_ n1_ n2_ n3_; (try clear hb); (try clear hb2); (try clear hk); (try clear hi)))
                  go_ret
                  exact ⟨by first | rfl | (simp [errW_none, errW_some] <;> rfl) | (simp [*, errW_none, errW_some] <;> rfl), by repeat (first | (with_reducible first | exact HB.out | apply below_alloc | apply pw_below_drewN | apply below_drew1 | refine below_set ?_ GE151.out | refine below_set ?_ GE159.out | refine below_set ?_ GE166.out) | exact HB.out)⟩
                · rw [if_neg c101] at H
                  have c101b0 : (t160 == 0 && (t161 == 0 && (t162 == 0 && (!t163)))) = false := by simpa using c101
                  (try (have c101b1 : decide (t160 = 0 && (t161 == 0 && (t162 == 0 && (!t163)))) = false := by simpa using c101))
                  (try (have c101b2 : (t160 == 0 && (t161 == 0 && (t162 == 0 && (!t163)))) = false := by simpa using c101))
                  (try (have c101b3 : ¬ (t160 = 0 && (t161 == 0 && (t162 == 0 && (!t163)))) := by simpa using c101))
                  clear c101
                  exact absurd ((Option.some.inj H).trans HR_.out) (by simp)
              · rw [if_neg c100] at H
                have c100b0 : (t152 == 0 && (t153 == 0 && (t154 == 0 && (!t155)))) = false := by simpa using c100
                (try (have c100b1 : decide (t152 = 0 && (t153 == 0 && (t154 == 0 && (!t155)))) = false := by simpa using c100))
                (try (have c100b2 : (t152 == 0 && (t153 == 0 && (t154 == 0 && (!t155)))) = false := by simpa using c100))
                (try (have c100b3 : ¬ (t152 = 0 && (t153 == 0 && (t154 == 0 && (!t155)))) := by simpa using c100))
                clear c100
                exact absurd ((Option.some.inj H).trans HR_.out) (by simp)
      · rw [if_neg c96] at H
        have c96b0 : (t165 == 1) = false := beq_eq_false_iff_ne.mpr c96
        have c96b1 : (t165 != 1) = true := bne_iff_ne.mpr c96
        exact absurd ((Option.some.inj H).trans HR_.out) (by simp)
    · rw [if_neg c95] at H
      have c95b0 : (t158 == 1) = false := beq_eq_false_iff_ne.mpr c95
      have c95b1 : (t158 != 1) = true := bne_iff_ne.mpr c95
      exact absurd ((Option.some.inj H).trans HR_.out) (by simp)
def withylaw16_HandHears.Pure : Prop := ∀ (a0_0 : Int) (a0_1 : Int) (a0_2 : Int) (a0_3 : Bool) (a1 : Int) (a2 : Int), (Lit.int .i64 a0_0).wf = true → (Lit.int .i64 a0_1).wf = true → (Lit.int .i64 a0_2).wf = true → (Lit.int .i64 a1).wf = true → (Lit.int .i64 a2).wf = true → ∃ k, withylaw16_HandHears.f k a0_0 a0_1 a0_2 a0_3 a1 a2 = some true

end Go.Proofs.Ytdjbpnpfgabdjaa.PHandHears
