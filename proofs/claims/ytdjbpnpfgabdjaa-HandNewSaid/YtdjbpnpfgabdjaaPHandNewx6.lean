-- written by a widened copy of the print, a program of this session; Lean checks it.
import Derived.Test.YtdjbpnpfgabdjaaPHandNewx0
import Derived.Test.YtdjbpnpfgabdjaaPHandNewx1
import Derived.Test.YtdjbpnpfgabdjaaPHandNewx2
import Derived.Test.YtdjbpnpfgabdjaaPHandNewx3
import Derived.Test.YtdjbpnpfgabdjaaPHandNewx4
import Derived.Test.YtdjbpnpfgabdjaaPHandNewx5
namespace Go.Proofs.Ytdjbpnpfgabdjaa.PHandNew
open Go.RowKit Go.Proofs.YtdjbpnpfgabdjaaW.PrintWords Go.Proofs.YtdjbpnpfgabdjaaW.PrintLast Go.Proofs.YtdjbpnpfgabdjaaW.PrintMore
attribute [local go_sem] max2_int min2_int max_two min_two max_three min_three max_four min_four   -- for this text's walks alone
set_option linter.unusedVariables false
set_option linter.unusedSimpArgs false

attribute [local go_sem high] eqA23
/-! ### withylaw16_HandNew: function 4 -/
mutual
def withylaw16_HandNew.j0 : Nat → Int → Int → Int → Int → Bool → Int → Int → Int → Bool → Int → Int → Int → Bool → Int → Int → Int → Bool → Option (Bool)
  | 0, _, _, _, _, _, _, _, _, _, _, _, _, _, _, _, _, _ => none
  | k + 1, x0, x1, x8, x10, x39, x164000, x164001, x164002, x164003, x170000, x170001, x170002, x170003, x176000, x176001, x176002, x176003 => if x39 = true then (if x8 = 1 then (if (!(x170000 == 0) || (!(x170001 == 0) || (!(x170002 == 0) || (x170003)))) = true then (some false) else (withylaw16_HandNew.j1 k x1 x10 x164000 x164001 x164002 x164003 x176000 x176001 x176002 x176003)) else (some false)) else (if x8 = 0 then ((withyref16_New.f x0 x1).bind fun bt179 => (if (!(x170000 == bt179.1) || (!(x170001 == bt179.2.1) || (!(x170002 == bt179.2.2.1) || (!(x170003 == bt179.2.2.2))))) = true then (some false) else ((withyref16_May.f k x170000 x170001 x170002 x170003).bind fun t183 => (if t183 = true then (withylaw16_HandNew.j1 k x1 x10 x164000 x164001 x164002 x164003 x176000 x176001 x176002 x176003) else (some false))))) else (some false))
def withylaw16_HandNew.j1 : Nat → Int → Int → Int → Int → Int → Bool → Int → Int → Int → Bool → Option (Bool)
  | 0, _, _, _, _, _, _, _, _, _, _ => none
  | k + 1, x1, x10, x164000, x164001, x164002, x164003, x176000, x176001, x176002, x176003 => (withyref16_May.f k x164000 x164001 x164002 x164003).bind fun t184 => (if t184 = true then ((withyref16_Limit.f x1).bind fun t185 => (withylaw16_HandNew.j2 k x1 x10 (!t185) x164000 x164001 x164002 x164003 x176000 x176001 x176002 x176003)) else (withylaw16_HandNew.j2 k x1 x10 true x164000 x164001 x164002 x164003 x176000 x176001 x176002 x176003))
def withylaw16_HandNew.j2 : Nat → Int → Int → Bool → Int → Int → Int → Bool → Int → Int → Int → Bool → Option (Bool)
  | 0, _, _, _, _, _, _, _, _, _, _, _ => none
  | k + 1, x1, x10, x68, x164000, x164001, x164002, x164003, x176000, x176001, x176002, x176003 => if x68 = true then (if x10 = 1 then (if (x176000 == 0 && (x176001 == 0 && (x176002 == 0 && (!x176003)))) = true then ((withylaw16_awake.f k).bind fun t186 => (some t186)) else (some false)) else (some false)) else (if x10 = 0 then ((withyref16_Close.f x164000 x164001 x164002 x164003 x1).bind fun bt187 => (if (x176000 == bt187.1 && (x176001 == bt187.2.1 && (x176002 == bt187.2.2.1 && (x176003 == bt187.2.2.2)))) = true then ((withylaw16_awake.f k).bind fun t191 => (some t191)) else (some false))) else (some false))
end
def withylaw16_HandNew.f (k : Nat) (a0 : Int) (a1 : Int) (a2_0 : Int) (a2_1 : Int) (a2_2 : Int) (a2_3 : Bool) : Option (Bool) := (hand_New.f k a0 a1).bind fun bt164 => ((hand_Close.f k a2_0 a2_1 a2_2 a2_3 a1).bind fun bt170 => ((hand_Check.f a2_0 a2_1 a2_2 a2_3).bind fun t176 => ((withyref16_May.f k a2_0 a2_1 a2_2 a2_3).bind fun t177 => (if ((t176 == 0) != t177) = true then (some false) else (if a0 < 0 then (withylaw16_HandNew.j0 k a0 a1 bt164.2.2.2.2 bt170.2.2.2.2 true a2_0 a2_1 a2_2 a2_3 bt164.1 bt164.2.1 bt164.2.2.1 bt164.2.2.2.1 bt170.1 bt170.2.1 bt170.2.2.1 bt170.2.2.2.1) else (if a0 > 2147483647 then (withylaw16_HandNew.j0 k a0 a1 bt164.2.2.2.2 bt170.2.2.2.2 true a2_0 a2_1 a2_2 a2_3 bt164.1 bt164.2.1 bt164.2.2.1 bt164.2.2.2.1 bt170.1 bt170.2.1 bt170.2.2.1 bt170.2.2.2.1) else ((withyref16_Limit.f a1).bind fun t178 => (withylaw16_HandNew.j0 k a0 a1 bt164.2.2.2.2 bt170.2.2.2.2 (!t178) a2_0 a2_1 a2_2 a2_3 bt164.1 bt164.2.1 bt164.2.2.1 bt164.2.2.2.1 bt170.1 bt170.2.1 bt170.2.2.1 bt170.2.2.2.1))))))))
theorem withylaw16_HandNew.mono_l : ∀ k, (∀ y0 y1 y2 y3 y4 y5 y6 y7 y8 y9 y10 y11 y12 y13 y14 y15 y16, LeO (withylaw16_HandNew.j0 k y0 y1 y2 y3 y4 y5 y6 y7 y8 y9 y10 y11 y12 y13 y14 y15 y16) (withylaw16_HandNew.j0 (k + 1) y0 y1 y2 y3 y4 y5 y6 y7 y8 y9 y10 y11 y12 y13 y14 y15 y16)) ∧ (∀ y0 y1 y2 y3 y4 y5 y6 y7 y8 y9, LeO (withylaw16_HandNew.j1 k y0 y1 y2 y3 y4 y5 y6 y7 y8 y9) (withylaw16_HandNew.j1 (k + 1) y0 y1 y2 y3 y4 y5 y6 y7 y8 y9)) ∧ (∀ y0 y1 y2 y3 y4 y5 y6 y7 y8 y9 y10, LeO (withylaw16_HandNew.j2 k y0 y1 y2 y3 y4 y5 y6 y7 y8 y9 y10) (withylaw16_HandNew.j2 (k + 1) y0 y1 y2 y3 y4 y5 y6 y7 y8 y9 y10))
  | 0 => ⟨fun _ _ _ _ _ _ _ _ _ _ _ _ _ _ _ _ _ r h => by simp [withylaw16_HandNew.j0] at h, fun _ _ _ _ _ _ _ _ _ _ r h => by simp [withylaw16_HandNew.j1] at h, fun _ _ _ _ _ _ _ _ _ _ _ r h => by simp [withylaw16_HandNew.j2] at h⟩
  | k + 1 => by
    obtain ⟨ih0, ih1, ih2⟩ := withylaw16_HandNew.mono_l k
    refine ⟨?_, ?_, ?_⟩
    · intro y0 y1 y2 y3 y4 y5 y6 y7 y8 y9 y10 y11 y12 y13 y14 y15 y16
      unfold withylaw16_HandNew.j0
      repeat' first
      | (with_reducible exact ih0 _ _ _ _ _ _ _ _ _ _ _ _ _ _ _ _ _)
      | (with_reducible exact ih1 _ _ _ _ _ _ _ _ _ _)
      | (with_reducible exact ih2 _ _ _ _ _ _ _ _ _ _ _)
      | (with_reducible exact hand_Close.mono _ _ _ _ _ _)
      | (with_reducible exact hand_New.mono _ _ _)
      | (with_reducible exact withylaw16_awake.mono _)
      | (with_reducible exact withyref16_May.mono _ _ _ _ _)
      | (with_reducible exact LeO.refl _)
      | (with_reducible exact LeO.none _)
      | (with_reducible refine LeO.ite ?_ ?_)
      | (with_reducible refine LeO.bind ?_ (fun _ => ?_))
      | exact ih0 _ _ _ _ _ _ _ _ _ _ _ _ _ _ _ _ _
      | exact ih1 _ _ _ _ _ _ _ _ _ _
      | exact ih2 _ _ _ _ _ _ _ _ _ _ _
      | exact hand_Close.mono _ _ _ _ _ _
      | exact hand_New.mono _ _ _
      | exact withylaw16_awake.mono _
      | exact withyref16_May.mono _ _ _ _ _
      | exact LeO.none _
      | refine LeO.ite ?_ ?_
      | refine LeO.bind ?_ (fun _ => ?_)
    · intro y0 y1 y2 y3 y4 y5 y6 y7 y8 y9
      unfold withylaw16_HandNew.j1
      repeat' first
      | (with_reducible exact ih0 _ _ _ _ _ _ _ _ _ _ _ _ _ _ _ _ _)
      | (with_reducible exact ih1 _ _ _ _ _ _ _ _ _ _)
      | (with_reducible exact ih2 _ _ _ _ _ _ _ _ _ _ _)
      | (with_reducible exact hand_Close.mono _ _ _ _ _ _)
      | (with_reducible exact hand_New.mono _ _ _)
      | (with_reducible exact withylaw16_awake.mono _)
      | (with_reducible exact withyref16_May.mono _ _ _ _ _)
      | (with_reducible exact LeO.refl _)
      | (with_reducible exact LeO.none _)
      | (with_reducible refine LeO.ite ?_ ?_)
      | (with_reducible refine LeO.bind ?_ (fun _ => ?_))
      | exact ih0 _ _ _ _ _ _ _ _ _ _ _ _ _ _ _ _ _
      | exact ih1 _ _ _ _ _ _ _ _ _ _
      | exact ih2 _ _ _ _ _ _ _ _ _ _ _
      | exact hand_Close.mono _ _ _ _ _ _
      | exact hand_New.mono _ _ _
      | exact withylaw16_awake.mono _
      | exact withyref16_May.mono _ _ _ _ _
      | exact LeO.none _
      | refine LeO.ite ?_ ?_
      | refine LeO.bind ?_ (fun _ => ?_)
    · intro y0 y1 y2 y3 y4 y5 y6 y7 y8 y9 y10
      unfold withylaw16_HandNew.j2
      repeat' first
      | (with_reducible exact ih0 _ _ _ _ _ _ _ _ _ _ _ _ _ _ _ _ _)
      | (with_reducible exact ih1 _ _ _ _ _ _ _ _ _ _)
      | (with_reducible exact ih2 _ _ _ _ _ _ _ _ _ _ _)
      | (with_reducible exact hand_Close.mono _ _ _ _ _ _)
      | (with_reducible exact hand_New.mono _ _ _)
      | (with_reducible exact withylaw16_awake.mono _)
      | (with_reducible exact withyref16_May.mono _ _ _ _ _)
      | (with_reducible exact LeO.refl _)
      | (with_reducible exact LeO.none _)
      | (with_reducible refine LeO.ite ?_ ?_)
      | (with_reducible refine LeO.bind ?_ (fun _ => ?_))
      | exact ih0 _ _ _ _ _ _ _ _ _ _ _ _ _ _ _ _ _
      | exact ih1 _ _ _ _ _ _ _ _ _ _
      | exact ih2 _ _ _ _ _ _ _ _ _ _ _
      | exact hand_Close.mono _ _ _ _ _ _
      | exact hand_New.mono _ _ _
      | exact withylaw16_awake.mono _
      | exact withyref16_May.mono _ _ _ _ _
      | exact LeO.none _
      | refine LeO.ite ?_ ?_
      | refine LeO.bind ?_ (fun _ => ?_)
theorem withylaw16_HandNew.mono : ∀ a0 a1 a2 a3 a4 a5 k, LeO (withylaw16_HandNew.f k a0 a1 a2 a3 a4 a5) (withylaw16_HandNew.f (k + 1) a0 a1 a2 a3 a4 a5) := by
  intro a0 a1 a2 a3 a4 a5 k
  obtain ⟨ih0, ih1, ih2⟩ := withylaw16_HandNew.mono_l k
  unfold withylaw16_HandNew.f
  repeat' first
      | (with_reducible exact ih0 _ _ _ _ _ _ _ _ _ _ _ _ _ _ _ _ _)
      | (with_reducible exact ih1 _ _ _ _ _ _ _ _ _ _)
      | (with_reducible exact ih2 _ _ _ _ _ _ _ _ _ _ _)
      | (with_reducible exact hand_Close.mono _ _ _ _ _ _)
      | (with_reducible exact hand_New.mono _ _ _)
      | (with_reducible exact withylaw16_awake.mono _)
      | (with_reducible exact withyref16_May.mono _ _ _ _ _)
      | (with_reducible exact LeO.refl _)
      | (with_reducible exact LeO.none _)
      | (with_reducible refine LeO.ite ?_ ?_)
      | (with_reducible refine LeO.bind ?_ (fun _ => ?_))
      | exact ih0 _ _ _ _ _ _ _ _ _ _ _ _ _ _ _ _ _
      | exact ih1 _ _ _ _ _ _ _ _ _ _
      | exact ih2 _ _ _ _ _ _ _ _ _ _ _
      | exact hand_Close.mono _ _ _ _ _ _
      | exact hand_New.mono _ _ _
      | exact withylaw16_awake.mono _
      | exact withyref16_May.mono _ _ _ _ _
      | exact LeO.none _
      | refine LeO.ite ?_ ?_
      | refine LeO.bind ?_ (fun _ => ?_)
def withylaw16_HandNew.T8 : Bool × List (List Nat × List Nat) := (true, [([], []), ([0], [0]), ([1], [1]), ([2], [2]), ([2], [2]), ([2], [2]), ([4, 5, 2, 2], [2, 4, 5]), ([3, 6, 2], [2, 3, 6]), ([2, 7], [2, 7]), ([8, 6], [8]), ([9], [9]), ([10, 9, 9], [9, 10]), ([11, 9], [9, 11]), ([9, 12], [9, 12])])
def withylaw16_HandNew.B8 : List Nat := [0, 1, 3, 7, 7, 7, 55, 127, 255, 511, 1023, 2047, 4095, 8191]
theorem withylaw16_HandNew.tab8 : rtab .any (opsOf Try.f4 8) = withylaw16_HandNew.T8 := by kernel_rfl
theorem withylaw16_HandNew.bits8 : waitsOk withylaw16_HandNew.T8.2 withylaw16_HandNew.B8 = true := by kernel_rfl
def withylaw16_HandNew.T12 : Bool × List (List Nat × List Nat) := (true, [([], []), ([0], [0]), ([1], [1]), ([2], [2]), ([2], [2]), ([2], [2]), ([4, 5, 2, 2], [2, 4, 5]), ([3, 6, 2], [2, 3, 6]), ([2, 7], [2, 7]), ([8, 6], [8]), ([9, 9], [9]), ([9, 10], [9, 10]), ([11, 10, 0, 1, 2, 3, 4, 5, 6, 7, 8, 9, 10, 11], [11])])
def withylaw16_HandNew.B12 : List Nat := [0, 1, 3, 7, 7, 7, 55, 127, 255, 511, 1023, 2047, 4095]
theorem withylaw16_HandNew.tab12 : rtab .any (opsOf Try.f4 12) = withylaw16_HandNew.T12 := by kernel_rfl
theorem withylaw16_HandNew.bits12 : waitsOk withylaw16_HandNew.T12.2 withylaw16_HandNew.B12 = true := by kernel_rfl
set_option maxHeartbeats 8000000 in
set_option maxRecDepth 100000 in
theorem withylaw16_HandNew.calls (k : Nat) (a0 : Int) (a1 : Int) (a2_0 : Int) (a2_1 : Int) (a2_2 : Int) (a2_3 : Bool) (r : Bool) (w : World) (h : withylaw16_HandNew.f k a0 a1 a2_0 a2_1 a2_2 a2_3 = some r) (hr_ : r = true) :
    Calls Try.prog 4 #[.int .i64 a0, .int .i64 a1, .agg #[.int .i64 a2_0, .int .i64 a2_1, .int .i64 a2_2, .bool a2_3]] w fun e w' => e = .returned (.bool r) ∧ Below w.heap.size w w' := by
  have hu23 := Try.underlying23
  have HB := Aside0.mk (Below.refl w.heap.size w)
  have H : ((hand_New.f k a0 a1).bind fun bt164 => ((hand_Close.f k a2_0 a2_1 a2_2 a2_3 a1).bind fun bt170 => ((hand_Check.f a2_0 a2_1 a2_2 a2_3).bind fun t176 => ((withyref16_May.f k a2_0 a2_1 a2_2 a2_3).bind fun t177 => (if ((t176 == 0) != t177) = true then (some false) else (if a0 < 0 then (withylaw16_HandNew.j0 k a0 a1 bt164.2.2.2.2 bt170.2.2.2.2 true a2_0 a2_1 a2_2 a2_3 bt164.1 bt164.2.1 bt164.2.2.1 bt164.2.2.2.1 bt170.1 bt170.2.1 bt170.2.2.1 bt170.2.2.2.1) else (if a0 > 2147483647 then (withylaw16_HandNew.j0 k a0 a1 bt164.2.2.2.2 bt170.2.2.2.2 true a2_0 a2_1 a2_2 a2_3 bt164.1 bt164.2.1 bt164.2.2.1 bt164.2.2.2.1 bt170.1 bt170.2.1 bt170.2.2.1 bt170.2.2.2.1) else ((withyref16_Limit.f a1).bind fun t178 => (withylaw16_HandNew.j0 k a0 a1 bt164.2.2.2.2 bt170.2.2.2.2 (!t178) a2_0 a2_1 a2_2 a2_3 bt164.1 bt164.2.1 bt164.2.2.1 bt164.2.2.2.1 bt170.1 bt170.2.1 bt170.2.2.1 bt170.2.2.2.1))))))))) = some r := h
  clear h
  have HR_ := Aside0.mk hr_
  clear hr_
  replace H := Option.bind_eq_some_iff.mp H
  obtain ⟨⟨t164, t165, t166, t167, t168⟩, A40, H⟩ := H
  replace H : ((hand_Close.f k a2_0 a2_1 a2_2 a2_3 a1).bind fun bt170 => ((hand_Check.f a2_0 a2_1 a2_2 a2_3).bind fun t176 => ((withyref16_May.f k a2_0 a2_1 a2_2 a2_3).bind fun t177 => (if ((t176 == 0) != t177) = true then (some false) else (if a0 < 0 then (withylaw16_HandNew.j0 k a0 a1 t168 bt170.2.2.2.2 true a2_0 a2_1 a2_2 a2_3 t164 t165 t166 t167 bt170.1 bt170.2.1 bt170.2.2.1 bt170.2.2.2.1) else (if a0 > 2147483647 then (withylaw16_HandNew.j0 k a0 a1 t168 bt170.2.2.2.2 true a2_0 a2_1 a2_2 a2_3 t164 t165 t166 t167 bt170.1 bt170.2.1 bt170.2.2.1 bt170.2.2.2.1) else ((withyref16_Limit.f a1).bind fun t178 => (withylaw16_HandNew.j0 k a0 a1 t168 bt170.2.2.2.2 (!t178) a2_0 a2_1 a2_2 a2_3 t164 t165 t166 t167 bt170.1 bt170.2.1 bt170.2.2.1 bt170.2.2.2.1)))))))) = some r := H
  have A4 := Aside0.mk A40
  clear A40
  replace H := Option.bind_eq_some_iff.mp H
  obtain ⟨⟨t170, t171, t172, t173, t174⟩, A50, H⟩ := H
  replace H : ((hand_Check.f a2_0 a2_1 a2_2 a2_3).bind fun t176 => ((withyref16_May.f k a2_0 a2_1 a2_2 a2_3).bind fun t177 => (if ((t176 == 0) != t177) = true then (some false) else (if a0 < 0 then (withylaw16_HandNew.j0 k a0 a1 t168 t174 true a2_0 a2_1 a2_2 a2_3 t164 t165 t166 t167 t170 t171 t172 t173) else (if a0 > 2147483647 then (withylaw16_HandNew.j0 k a0 a1 t168 t174 true a2_0 a2_1 a2_2 a2_3 t164 t165 t166 t167 t170 t171 t172 t173) else ((withyref16_Limit.f a1).bind fun t178 => (withylaw16_HandNew.j0 k a0 a1 t168 t174 (!t178) a2_0 a2_1 a2_2 a2_3 t164 t165 t166 t167 t170 t171 t172 t173))))))) = some r := H
  have A5 := Aside0.mk A50
  clear A50
  replace H := Option.bind_eq_some_iff.mp H
  obtain ⟨t176, A60, H⟩ := H
  replace H : ((withyref16_May.f k a2_0 a2_1 a2_2 a2_3).bind fun t177 => (if ((t176 == 0) != t177) = true then (some false) else (if a0 < 0 then (withylaw16_HandNew.j0 k a0 a1 t168 t174 true a2_0 a2_1 a2_2 a2_3 t164 t165 t166 t167 t170 t171 t172 t173) else (if a0 > 2147483647 then (withylaw16_HandNew.j0 k a0 a1 t168 t174 true a2_0 a2_1 a2_2 a2_3 t164 t165 t166 t167 t170 t171 t172 t173) else ((withyref16_Limit.f a1).bind fun t178 => (withylaw16_HandNew.j0 k a0 a1 t168 t174 (!t178) a2_0 a2_1 a2_2 a2_3 t164 t165 t166 t167 t170 t171 t172 t173)))))) = some r := H
  have A6 := Aside0.mk A60
  clear A60
  replace H := Option.bind_eq_some_iff.mp H
  obtain ⟨t177, A70, H⟩ := H
  replace H : (if ((t176 == 0) != t177) = true then (some false) else (if a0 < 0 then (withylaw16_HandNew.j0 k a0 a1 t168 t174 true a2_0 a2_1 a2_2 a2_3 t164 t165 t166 t167 t170 t171 t172 t173) else (if a0 > 2147483647 then (withylaw16_HandNew.j0 k a0 a1 t168 t174 true a2_0 a2_1 a2_2 a2_3 t164 t165 t166 t167 t170 t171 t172 t173) else ((withyref16_Limit.f a1).bind fun t178 => (withylaw16_HandNew.j0 k a0 a1 t168 t174 (!t178) a2_0 a2_1 a2_2 a2_3 t164 t165 t166 t167 t170 t171 t172 t173))))) = some r := H
  have A7 := Aside0.mk A70
  clear A70
  obtain ⟨bq8, hbq8⟩ : ∃ b_ : Bool, ((t176 == 0) != t177) = b_ := ⟨_, rfl⟩
  replace H : (if bq8 = true then (some false) else (if a0 < 0 then (withylaw16_HandNew.j0 k a0 a1 t168 t174 true a2_0 a2_1 a2_2 a2_3 t164 t165 t166 t167 t170 t171 t172 t173) else (if a0 > 2147483647 then (withylaw16_HandNew.j0 k a0 a1 t168 t174 true a2_0 a2_1 a2_2 a2_3 t164 t165 t166 t167 t170 t171 t172 t173) else ((withyref16_Limit.f a1).bind fun t178 => (withylaw16_HandNew.j0 k a0 a1 t168 t174 (!t178) a2_0 a2_1 a2_2 a2_3 t164 t165 t166 t167 t170 t171 t172 t173))))) = some r := by first | (rw [hbq8] at H; exact H) | (simp only [hbq8] at H ⊢; exact H)
  have hbq8_ : (!((t176 == 0) == t177)) = bq8 := hbq8
  by_cases c9 : bq8 = true
  · subst c9
    have H1 : (some false) = some r := by rw [if_pos rfl] at H; exact H
    clear H
    have H := H1
    clear H1
    exact absurd ((Option.some.inj H).trans HR_.out) (by simp)
  · replace c9 := Bool.eq_false_iff.mpr c9
    subst c9
    have H1 : (if a0 < 0 then (withylaw16_HandNew.j0 k a0 a1 t168 t174 true a2_0 a2_1 a2_2 a2_3 t164 t165 t166 t167 t170 t171 t172 t173) else (if a0 > 2147483647 then (withylaw16_HandNew.j0 k a0 a1 t168 t174 true a2_0 a2_1 a2_2 a2_3 t164 t165 t166 t167 t170 t171 t172 t173) else ((withyref16_Limit.f a1).bind fun t178 => (withylaw16_HandNew.j0 k a0 a1 t168 t174 (!t178) a2_0 a2_1 a2_2 a2_3 t164 t165 t166 t167 t170 t171 t172 t173)))) = some r := by rw [if_neg (show ¬ (false = true) by decide)] at H; exact H
    clear H
    have H := H1
    clear H1
    have HC10 := Aside0.mk H
    clear H
    go_enter Try.func4, Try.ntmps4
    try go_wp2_with (first | ((with_reducible refine gate_dst (N := 5) rfl ?_); refine box_event ?hg (N := 5) ?hd (cs := #[.int .i64 a2_0, .int .i64 a2_1, .int .i64 a2_2, .bool a2_3]) (t := 23) ?hr ?_; (case hd => rfl); (case hg => rfl); (case hr => first | (go_simp; done) | (go_simp; rfl)); intro gb163 hg w11 hbox hb; have n0_ := Aside0.mk (below_step (by repeat (first | (with_reducible first | exact HB.out | apply below_alloc | apply pw_below_drewN | apply below_drew1) | exact HB.out)) hb); have n1_ := Aside0.mk (hbox); have n2_ := Aside0.mk ((by rw [hg]; exact (below_size (by repeat (first | (with_reducible first | exact HB.out | apply below_alloc | apply pw_below_drewN | apply below_drew1) | exact HB.out))) : w.heap.size ≤ gb163)); have n3_ := Aside0.mk ((by rw [hg]; exact (below_size (by repeat (first | (with_reducible first | exact HB.out | apply below_alloc | apply pw_below_drewN | apply below_drew1) | exact HB.out))) : w.heap.size ≤ gb163)); clear HB; have HB := n0_; have BK163 := n1_; have GW163 := n2_; have GE163 := n3_; clear n0_ n1_ n2_ n3_; clear hb hbox hg) | ((with_reducible refine gate_callee (f := 15) rfl ?_); refine goesL_ (some 14) rfl rfl Try.func15 (by kernel_rfl) rfl #[.int .i64 a0, .int .i64 a1] rfl (by (try simp only [List.map_toArray, List.map_cons, List.map_nil]); first | done | rfl | (simp only [List.length_drop, List.length_take]; rfl)) ?_; (with_reducible refine (hand_New.calls k a0 a1 t164 t165 t166 t167 t168 _ A4.out).mono ?_); rintro e w12 ⟨rfl, hb⟩; refine ⟨_, rfl, ?_⟩; have n0_ := Aside0.mk (blk_below (g := gb163) (o := .cells #[.int .i64 a2_0, .int .i64 a2_1, .int .i64 a2_2, .bool a2_3] 23 (0, 0)) (by (with_reducible repeat (first | refine blk_drewN ?_ _ | refine blk_drew ?_ | refine blk_alloc ?_ _)); exact BK163.out) hb); have n1_ := Aside0.mk (below_step (by repeat (first | (with_reducible first | exact HB.out | apply below_alloc | apply pw_below_drewN | apply below_drew1 | refine below_set ?_ GE163.out) | exact HB.out)) hb); clear BK163; clear HB; have BK163 := n0_; have HB := n1_; clear n0_ n1_; (try clear hb); (try clear hb2); (try clear hk); (try clear hi)) | ((with_reducible refine gate_dst (N := 7) rfl ?_); refine box_event ?hg (N := 7) ?hd (cs := #[.int .i64 0, .int .i64 0, .int .i64 0, .bool false]) (t := 23) ?hr ?_; (case hd => rfl); (case hg => rfl); (case hr => first | (go_simp; done) | (go_simp; rfl)); intro gb169 hg w13 hbox hb; have n0_ := Aside0.mk (blk_below (g := gb163) (o := .cells #[.int .i64 a2_0, .int .i64 a2_1, .int .i64 a2_2, .bool a2_3] 23 (0, 0)) (by (with_reducible repeat (first | refine blk_drewN ?_ _ | refine blk_drew ?_ | refine blk_alloc ?_ _)); exact BK163.out) hb); have n1_ := Aside0.mk (below_step (by repeat (first | (with_reducible first | exact HB.out | apply below_alloc | apply pw_below_drewN | apply below_drew1 | refine below_set ?_ GE163.out) | exact HB.out)) hb); have n2_ := Aside0.mk (hbox); have n3_ := Aside0.mk ((by rw [hg]; exact (below_size (by repeat (first | (with_reducible first | exact HB.out | apply below_alloc | apply pw_below_drewN | apply below_drew1 | refine below_set ?_ GE163.out) | exact HB.out))) : w.heap.size ≤ gb169)); have n4_ := Aside0.mk ((by rw [hg]; exact (below_size (by repeat (first | (with_reducible first | exact HB.out | apply below_alloc | apply pw_below_drewN | apply below_drew1 | refine below_set ?_ GE163.out) | exact HB.out))) : w.heap.size ≤ gb169)); have n5_ := Aside0.mk ((by rw [hg]; exact Nat.ne_of_lt (blk_lt (g := gb163) (o := .cells #[.int .i64 a2_0, .int .i64 a2_1, .int .i64 a2_2, .bool a2_3] 23 (0, 0)) (by (with_reducible repeat (first | refine blk_drewN ?_ _ | refine blk_drew ?_ | refine blk_alloc ?_ _)); exact BK163.out)) : gb163 ≠ gb169)); have n6_ := Aside0.mk ((by rw [hg]; exact Nat.ne_of_gt (blk_lt (g := gb163) (o := .cells #[.int .i64 a2_0, .int .i64 a2_1, .int .i64 a2_2, .bool a2_3] 23 (0, 0)) (by (with_reducible repeat (first | refine blk_drewN ?_ _ | refine blk_drew ?_ | refine blk_alloc ?_ _)); exact BK163.out)) : gb169 ≠ gb163)); clear BK163; clear HB; have BK163 := n0_; have HB := n1_; have BK169 := n2_; have GW169 := n3_; have GE169 := n4_; have NB163_169 := n5_; have NB169_163 := n6_; clear n0_ n1_ n2_ n3_ n4_ n5_ n6_; clear hb hbox hg; have hnb14 := NB169_163.out; have hnc14 := NB163_169.out; have hcz15_0 : w13.cell? ⟨gb169, 0, none⟩ = some (.int .i64 0) := (blk_cell BK169.out 0).trans rfl; have hcz15_1 : w13.cell? ⟨gb169, 1, none⟩ = some (.int .i64 0) := (blk_cell BK169.out 1).trans rfl; have hcz15_2 : w13.cell? ⟨gb169, 2, none⟩ = some (.int .i64 0) := (blk_cell BK169.out 2).trans rfl; have hcz15_3 : w13.cell? ⟨gb169, 3, none⟩ = some (.bool false) := (blk_cell BK169.out 3).trans rfl; have hfz15_0 := blk_frozen BK169.out 0; have hfz15_1 := blk_frozen BK169.out 1; have hfz15_2 := blk_frozen BK169.out 2; have hfz15_3 := blk_frozen BK169.out 3; have hcz16_0 : w13.cell? ⟨gb163, 0, none⟩ = some (.int .i64 a2_0) := (blk_cell BK163.out 0).trans rfl; have hcz16_1 : w13.cell? ⟨gb163, 1, none⟩ = some (.int .i64 a2_1) := (blk_cell BK163.out 1).trans rfl; have hcz16_2 : w13.cell? ⟨gb163, 2, none⟩ = some (.int .i64 a2_2) := (blk_cell BK163.out 2).trans rfl; have hcz16_3 : w13.cell? ⟨gb163, 3, none⟩ = some (.bool a2_3) := (blk_cell BK163.out 3).trans rfl; have hfz16_0 := blk_frozen BK163.out 0; have hfz16_1 := blk_frozen BK163.out 1; have hfz16_2 := blk_frozen BK163.out 2; have hfz16_3 := blk_frozen BK163.out 3) | ((with_reducible refine gate_callee (f := 16) rfl ?_); refine goesL_ (some 20) rfl rfl Try.func16 (by kernel_rfl) rfl #[.agg #[.int .i64 a2_0, .int .i64 a2_1, .int .i64 a2_2, .bool a2_3], .int .i64 a1] rfl (by (try simp only [List.map_toArray, List.map_cons, List.map_nil]); first | done | rfl | (simp only [List.length_drop, List.length_take]; rfl)) ?_; (with_reducible refine (hand_Close.calls k a2_0 a2_1 a2_2 a2_3 a1 t170 t171 t172 t173 t174 _ A5.out).mono ?_); rintro e w17 ⟨rfl, hb⟩; refine ⟨_, rfl, ?_⟩; have n0_ := Aside0.mk (blk_below (g := gb163) (o := .cells #[.int .i64 a2_0, .int .i64 a2_1, .int .i64 a2_2, .bool a2_3] 23 (0, 0)) (by (with_reducible repeat (first | refine blk_drewN ?_ _ | refine blk_drew ?_ | refine blk_alloc ?_ _)); refine blk_far ?_ NB163_169.out _; (with_reducible repeat (first | refine blk_drewN ?_ _ | refine blk_drew ?_ | refine blk_alloc ?_ _)); refine blk_far ?_ NB163_169.out _; (with_reducible repeat (first | refine blk_drewN ?_ _ | refine blk_drew ?_ | refine blk_alloc ?_ _)); refine blk_far ?_ NB163_169.out _; (with_reducible repeat (first | refine blk_drewN ?_ _ | refine blk_drew ?_ | refine blk_alloc ?_ _)); refine blk_far ?_ NB163_169.out _; (with_reducible repeat (first | refine blk_drewN ?_ _ | refine blk_drew ?_ | refine blk_alloc ?_ _)); exact BK163.out) hb); have n1_ := Aside0.mk (blk_below (g := gb169) (o := .cells #[.int .i64 t164, .int .i64 t165, .int .i64 t166, .bool t167] 23 (0, 0)) (by (with_reducible repeat (first | refine blk_drewN ?_ _ | refine blk_drew ?_ | refine blk_alloc ?_ _)); refine blk_put (cs := #[.int .i64 t164, .int .i64 t165, .int .i64 t166, .bool false]) ?_ 3 _ rfl; (with_reducible repeat (first | refine blk_drewN ?_ _ | refine blk_drew ?_ | refine blk_alloc ?_ _)); refine blk_put (cs := #[.int .i64 t164, .int .i64 t165, .int .i64 0, .bool false]) ?_ 2 _ rfl; (with_reducible repeat (first | refine blk_drewN ?_ _ | refine blk_drew ?_ | refine blk_alloc ?_ _)); refine blk_put (cs := #[.int .i64 t164, .int .i64 0, .int .i64 0, .bool false]) ?_ 1 _ rfl; (with_reducible repeat (first | refine blk_drewN ?_ _ | refine blk_drew ?_ | refine blk_alloc ?_ _)); refine blk_put (cs := #[.int .i64 0, .int .i64 0, .int .i64 0, .bool false]) ?_ 0 _ rfl; (with_reducible repeat (first | refine blk_drewN ?_ _ | refine blk_drew ?_ | refine blk_alloc ?_ _)); exact BK169.out) hb); have n2_ := Aside0.mk (below_step (by repeat (first | (with_reducible first | exact HB.out | apply below_alloc | apply pw_below_drewN | apply below_drew1 | refine below_set ?_ GE163.out | refine below_set ?_ GE169.out) | exact HB.out)) hb); clear BK163; clear BK169; clear HB; have BK163 := n0_; have BK169 := n1_; have HB := n2_; clear n0_ n1_ n2_; (try clear hb); (try clear hb2); (try clear hk); (try clear hi)) | ((with_reducible refine gate_dst (N := 9) rfl ?_); refine box_event ?hg (N := 9) ?hd (cs := #[.int .i64 0, .int .i64 0, .int .i64 0, .bool false]) (t := 23) ?hr ?_; (case hd => rfl); (case hg => rfl); (case hr => first | (go_simp; done) | (go_simp; rfl)); intro gb175 hg w18 hbox hb; have n0_ := Aside0.mk (blk_below (g := gb163) (o := .cells #[.int .i64 a2_0, .int .i64 a2_1, .int .i64 a2_2, .bool a2_3] 23 (0, 0)) (by (with_reducible repeat (first | refine blk_drewN ?_ _ | refine blk_drew ?_ | refine blk_alloc ?_ _)); exact BK163.out) hb); have n1_ := Aside0.mk (blk_below (g := gb169) (o := .cells #[.int .i64 t164, .int .i64 t165, .int .i64 t166, .bool t167] 23 (0, 0)) (by (with_reducible repeat (first | refine blk_drewN ?_ _ | refine blk_drew ?_ | refine blk_alloc ?_ _)); exact BK169.out) hb); have n2_ := Aside0.mk (below_step (by repeat (first | (with_reducible first | exact HB.out | apply below_alloc | apply pw_below_drewN | apply below_drew1 | refine below_set ?_ GE163.out | refine below_set ?_ GE169.out) | exact HB.out)) hb); have n3_ := Aside0.mk (hbox); have n4_ := Aside0.mk ((by rw [hg]; exact (below_size (by repeat (first | (with_reducible first | exact HB.out | apply below_alloc | apply pw_below_drewN | apply below_drew1 | refine below_set ?_ GE163.out | refine below_set ?_ GE169.out) | exact HB.out))) : w.heap.size ≤ gb175)); have n5_ := Aside0.mk ((by rw [hg]; exact (below_size (by repeat (first | (with_reducible first | exact HB.out | apply below_alloc | apply pw_below_drewN | apply below_drew1 | refine below_set ?_ GE163.out | refine below_set ?_ GE169.out) | exact HB.out))) : w.heap.size ≤ gb175)); have n6_ := Aside0.mk ((by rw [hg]; exact Nat.ne_of_lt (blk_lt (g := gb163) (o := .cells #[.int .i64 a2_0, .int .i64 a2_1, .int .i64 a2_2, .bool a2_3] 23 (0, 0)) (by (with_reducible repeat (first | refine blk_drewN ?_ _ | refine blk_drew ?_ | refine blk_alloc ?_ _)); exact BK163.out)) : gb163 ≠ gb175)); have n7_ := Aside0.mk ((by rw [hg]; exact Nat.ne_of_gt (blk_lt (g := gb163) (o := .cells #[.int .i64 a2_0, .int .i64 a2_1, .int .i64 a2_2, .bool a2_3] 23 (0, 0)) (by (with_reducible repeat (first | refine blk_drewN ?_ _ | refine blk_drew ?_ | refine blk_alloc ?_ _)); exact BK163.out)) : gb175 ≠ gb163)); have n8_ := Aside0.mk ((by rw [hg]; exact Nat.ne_of_lt (blk_lt (g := gb169) (o := .cells #[.int .i64 t164, .int .i64 t165, .int .i64 t166, .bool t167] 23 (0, 0)) (by (with_reducible repeat (first | refine blk_drewN ?_ _ | refine blk_drew ?_ | refine blk_alloc ?_ _)); exact BK169.out)) : gb169 ≠ gb175)); have n9_ := Aside0.mk ((by rw [hg]; exact Nat.ne_of_gt (blk_lt (g := gb169) (o := .cells #[.int .i64 t164, .int .i64 t165, .int .i64 t166, .bool t167] 23 (0, 0)) (by (with_reducible repeat (first | refine blk_drewN ?_ _ | refine blk_drew ?_ | refine blk_alloc ?_ _)); exact BK169.out)) : gb175 ≠ gb169)); clear BK163; clear BK169; clear HB; have BK163 := n0_; have BK169 := n1_; have HB := n2_; have BK175 := n3_; have GW175 := n4_; have GE175 := n5_; have NB163_175 := n6_; have NB175_163 := n7_; have NB169_175 := n8_; have NB175_169 := n9_; clear n0_ n1_ n2_ n3_ n4_ n5_ n6_ n7_ n8_ n9_; clear hb hbox hg; have hnb19 := NB175_163.out; have hnc19 := NB163_175.out; have hnb20 := NB175_169.out; have hnc20 := NB169_175.out; have hcz21_0 : w18.cell? ⟨gb175, 0, none⟩ = some (.int .i64 0) := (blk_cell BK175.out 0).trans rfl; have hcz21_1 : w18.cell? ⟨gb175, 1, none⟩ = some (.int .i64 0) := (blk_cell BK175.out 1).trans rfl; have hcz21_2 : w18.cell? ⟨gb175, 2, none⟩ = some (.int .i64 0) := (blk_cell BK175.out 2).trans rfl; have hcz21_3 : w18.cell? ⟨gb175, 3, none⟩ = some (.bool false) := (blk_cell BK175.out 3).trans rfl; have hfz21_0 := blk_frozen BK175.out 0; have hfz21_1 := blk_frozen BK175.out 1; have hfz21_2 := blk_frozen BK175.out 2; have hfz21_3 := blk_frozen BK175.out 3))
    have n0_ : Aside0 (((((w18.setCell ⟨gb175, 0, none⟩ (.int .i64 t170)).setCell ⟨gb175, 1, none⟩ (.int .i64 t171)).setCell ⟨gb175, 2, none⟩ (.int .i64 t172)).setCell ⟨gb175, 3, none⟩ (.bool t173)).heap[gb163]? = some (.cells #[.int .i64 a2_0, .int .i64 a2_1, .int .i64 a2_2, .bool a2_3] 23 (0, 0))) := ⟨by (with_reducible repeat (first | refine blk_drewN ?_ _ | refine blk_drew ?_ | refine blk_alloc ?_ _)); refine blk_far ?_ NB163_175.out _; (with_reducible repeat (first | refine blk_drewN ?_ _ | refine blk_drew ?_ | refine blk_alloc ?_ _)); refine blk_far ?_ NB163_175.out _; (with_reducible repeat (first | refine blk_drewN ?_ _ | refine blk_drew ?_ | refine blk_alloc ?_ _)); refine blk_far ?_ NB163_175.out _; (with_reducible repeat (first | refine blk_drewN ?_ _ | refine blk_drew ?_ | refine blk_alloc ?_ _)); refine blk_far ?_ NB163_175.out _; (with_reducible repeat (first | refine blk_drewN ?_ _ | refine blk_drew ?_ | refine blk_alloc ?_ _)); exact BK163.out⟩
    have n1_ : Aside0 (((((w18.setCell ⟨gb175, 0, none⟩ (.int .i64 t170)).setCell ⟨gb175, 1, none⟩ (.int .i64 t171)).setCell ⟨gb175, 2, none⟩ (.int .i64 t172)).setCell ⟨gb175, 3, none⟩ (.bool t173)).heap[gb169]? = some (.cells #[.int .i64 t164, .int .i64 t165, .int .i64 t166, .bool t167] 23 (0, 0))) := ⟨by (with_reducible repeat (first | refine blk_drewN ?_ _ | refine blk_drew ?_ | refine blk_alloc ?_ _)); refine blk_far ?_ NB169_175.out _; (with_reducible repeat (first | refine blk_drewN ?_ _ | refine blk_drew ?_ | refine blk_alloc ?_ _)); refine blk_far ?_ NB169_175.out _; (with_reducible repeat (first | refine blk_drewN ?_ _ | refine blk_drew ?_ | refine blk_alloc ?_ _)); refine blk_far ?_ NB169_175.out _; (with_reducible repeat (first | refine blk_drewN ?_ _ | refine blk_drew ?_ | refine blk_alloc ?_ _)); refine blk_far ?_ NB169_175.out _; (with_reducible repeat (first | refine blk_drewN ?_ _ | refine blk_drew ?_ | refine blk_alloc ?_ _)); exact BK169.out⟩
    have n2_ : Aside0 (((((w18.setCell ⟨gb175, 0, none⟩ (.int .i64 t170)).setCell ⟨gb175, 1, none⟩ (.int .i64 t171)).setCell ⟨gb175, 2, none⟩ (.int .i64 t172)).setCell ⟨gb175, 3, none⟩ (.bool t173)).heap[gb175]? = some (.cells #[.int .i64 t170, .int .i64 t171, .int .i64 t172, .bool t173] 23 (0, 0))) := ⟨by (with_reducible repeat (first | refine blk_drewN ?_ _ | refine blk_drew ?_ | refine blk_alloc ?_ _)); refine blk_put (cs := #[.int .i64 t170, .int .i64 t171, .int .i64 t172, .bool false]) ?_ 3 _ rfl; (with_reducible repeat (first | refine blk_drewN ?_ _ | refine blk_drew ?_ | refine blk_alloc ?_ _)); refine blk_put (cs := #[.int .i64 t170, .int .i64 t171, .int .i64 0, .bool false]) ?_ 2 _ rfl; (with_reducible repeat (first | refine blk_drewN ?_ _ | refine blk_drew ?_ | refine blk_alloc ?_ _)); refine blk_put (cs := #[.int .i64 t170, .int .i64 0, .int .i64 0, .bool false]) ?_ 1 _ rfl; (with_reducible repeat (first | refine blk_drewN ?_ _ | refine blk_drew ?_ | refine blk_alloc ?_ _)); refine blk_put (cs := #[.int .i64 0, .int .i64 0, .int .i64 0, .bool false]) ?_ 0 _ rfl; (with_reducible repeat (first | refine blk_drewN ?_ _ | refine blk_drew ?_ | refine blk_alloc ?_ _)); exact BK175.out⟩
    have n3_ : Aside0 (Below w.heap.size w ((((w18.setCell ⟨gb175, 0, none⟩ (.int .i64 t170)).setCell ⟨gb175, 1, none⟩ (.int .i64 t171)).setCell ⟨gb175, 2, none⟩ (.int .i64 t172)).setCell ⟨gb175, 3, none⟩ (.bool t173))) := ⟨by repeat (first | (with_reducible first | exact HB.out | apply below_alloc | apply pw_below_drewN | apply below_drew1 | refine below_set ?_ GE163.out | refine below_set ?_ GE169.out | refine below_set ?_ GE175.out) | exact HB.out)⟩
    (try clear BK163)
    (try clear BK169)
    (try clear BK175)
    (try clear HB)
    generalize ((((w18.setCell ⟨gb175, 0, none⟩ (.int .i64 t170)).setCell ⟨gb175, 1, none⟩ (.int .i64 t171)).setCell ⟨gb175, 2, none⟩ (.int .i64 t172)).setCell ⟨gb175, 3, none⟩ (.bool t173)) = w22 at n0_ n1_ n2_ n3_ ⊢
    have BK163 := n0_
    have BK169 := n1_
    have BK175 := n2_
    have HB := n3_
    clear n0_ n1_ n2_ n3_
    have n0_ := Aside0.mk (blk_drew BK163.out)
    have n1_ := Aside0.mk (blk_drew BK169.out)
    have n2_ := Aside0.mk (blk_drew BK175.out)
    have n3_ := Aside0.mk (below_drew1 HB.out)
    clear BK163
    clear BK169
    clear BK175
    clear HB
    have BK163 := n0_
    have BK169 := n1_
    have BK175 := n2_
    have HB := n3_
    clear n0_ n1_ n2_ n3_
    refine start_ (n := 6) (S := fun w' => w'.cell? ⟨gb163, 0, none⟩ = some (.int .i64 a2_0) ∧ w'.cell? ⟨gb163, 1, none⟩ = some (.int .i64 a2_1) ∧ w'.cell? ⟨gb163, 2, none⟩ = some (.int .i64 a2_2) ∧ w'.cell? ⟨gb163, 3, none⟩ = some (.bool a2_3)) (ds := []) #[false, false, false, false, false, false] (by kernel_rfl) rfl rfl ⟨(blk_cell BK163.out 0).trans rfl, (blk_cell BK163.out 1).trans rfl, (blk_cell BK163.out 2).trans rfl, (blk_cell BK163.out 3).trans rfl⟩ (fun hHeld => ?_)
    generalize w22.drew = w23 at BK163 BK169 BK175 HB hHeld ⊢
    refine take_ (i := 0) (N := some 23) (v := ?_) (a' := ?_) #[true, false, false, false, false, false] rfl rfl (by kernel_rfl) (fun _ _ _ h => h) (Or.inl ⟨by rfl, ?_⟩) hHeld ?_ ?_
    rotate_left
    · rintro w' ⟨s0, s1, s2, s3⟩
      go_simp
      with_reducible rfl
    rotate_left
    · simp only [Act.put, List.setIfInBounds_toArray, List.set_cons_zero, List.set_cons_succ, i64_w, i32_w]
      rfl
    refine take_ (i := 3) (N := some 26) (v := ?_) (a' := ?_) #[true, false, false, true, false, false] rfl rfl (by kernel_rfl) (fun _ _ _ h => h) (Or.inl ⟨by rfl, ?_⟩) hHeld ?_ ?_
    rotate_left
    · rintro w' ⟨s0, s1, s2, s3⟩
      go_simp
      with_reducible rfl
    rotate_left
    · simp only [Act.put, List.setIfInBounds_toArray, List.set_cons_zero, List.set_cons_succ, i64_w, i32_w]
      rfl
    refine one_ (i := 1) (N := some 24) #[true, true, false, true, false, false] rfl rfl (by kernel_rfl) (by decide) (fun K hK => ?_)
    refine goes_ Try.func17 (by kernel_rfl) rfl #[.agg #[.int .i64 a2_0, .int .i64 a2_1, .int .i64 a2_2, .bool a2_3]] (by rfl) rfl rfl (by (try simp only [List.map_toArray, List.map_cons, List.map_nil]); first | done | rfl | (simp only [List.length_drop, List.length_take]; rfl)) ?_
    with_reducible refine (hand_Check.calls a2_0 a2_1 a2_2 a2_3 t176 _ A6.out).mono ?_
    rintro e w24 ⟨rfl, hb⟩
    refine ⟨_, rfl, ?_⟩
    have n0_ := Aside0.mk (blk_below (g := gb163) (o := .cells #[.int .i64 a2_0, .int .i64 a2_1, .int .i64 a2_2, .bool a2_3] 23 (0, 0)) (by (with_reducible repeat (first | refine blk_drewN ?_ _ | refine blk_drew ?_ | refine blk_alloc ?_ _)); exact BK163.out) hb)
    have n1_ := Aside0.mk (blk_below (g := gb169) (o := .cells #[.int .i64 t164, .int .i64 t165, .int .i64 t166, .bool t167] 23 (0, 0)) (by (with_reducible repeat (first | refine blk_drewN ?_ _ | refine blk_drew ?_ | refine blk_alloc ?_ _)); exact BK169.out) hb)
    have n2_ := Aside0.mk (blk_below (g := gb175) (o := .cells #[.int .i64 t170, .int .i64 t171, .int .i64 t172, .bool t173] 23 (0, 0)) (by (with_reducible repeat (first | refine blk_drewN ?_ _ | refine blk_drew ?_ | refine blk_alloc ?_ _)); exact BK175.out) hb)
    have n3_ := Aside0.mk (below_step (by repeat (first | (with_reducible first | exact HB.out | apply below_alloc | apply pw_below_drewN | apply below_drew1 | refine below_set ?_ GE163.out | refine below_set ?_ GE169.out | refine below_set ?_ GE175.out) | exact HB.out)) hb)
    clear BK163
    clear BK169
    clear BK175
    clear HB
    have BK163 := n0_
    have BK169 := n1_
    have BK175 := n2_
    have HB := n3_
    clear n0_ n1_ n2_ n3_
    (try clear hb)
    (try clear hb2)
    (try clear hk)
    (try clear hi)
    refine hK.out _ _ ⟨(blk_cell BK163.out 0).trans rfl, (blk_cell BK163.out 1).trans rfl, (blk_cell BK163.out 2).trans rfl, (blk_cell BK163.out 3).trans rfl⟩ (fun hHeld => ?_)
    clear hK K
    refine norm_ (a' := ?_) ?_ ?_
    rotate_left
    · show Act.put _ (some 24) _ = _
      simp only [Act.put, List.setIfInBounds_toArray, List.set_cons_zero, List.set_cons_succ, i64_w, i32_w]
      rfl
    refine pure_ (i := 2) (N := some 25) (v := ?_) (a' := ?_) #[true, true, true, true, false, false] rfl rfl (by kernel_rfl) (fun _ _ _ h => h) (Or.inl ⟨by rfl, ?_⟩) ?_ ?_
    rotate_left
    · intro w'
      go_simp
      with_reducible rfl
    rotate_left
    · simp only [Act.put, List.setIfInBounds_toArray, List.set_cons_zero, List.set_cons_succ, i64_w, i32_w]
      rfl
    refine one_ (i := 4) (N := some 27) #[true, true, true, true, true, false] rfl rfl (by kernel_rfl) (by decide) (fun K hK => ?_)
    refine goes_ Try.func10 (by kernel_rfl) rfl #[.agg #[.int .i64 a2_0, .int .i64 a2_1, .int .i64 a2_2, .bool a2_3]] (by rfl) rfl rfl (by (try simp only [List.map_toArray, List.map_cons, List.map_nil]); first | done | rfl | (simp only [List.length_drop, List.length_take]; rfl)) ?_
    with_reducible refine (withyref16_May.calls k a2_0 a2_1 a2_2 a2_3 t177 _ A7.out).mono ?_
    rintro e w25 ⟨rfl, hb⟩
    refine ⟨_, rfl, ?_⟩
    have n0_ := Aside0.mk (blk_below (g := gb163) (o := .cells #[.int .i64 a2_0, .int .i64 a2_1, .int .i64 a2_2, .bool a2_3] 23 (0, 0)) (by (with_reducible repeat (first | refine blk_drewN ?_ _ | refine blk_drew ?_ | refine blk_alloc ?_ _)); exact BK163.out) hb)
    have n1_ := Aside0.mk (blk_below (g := gb169) (o := .cells #[.int .i64 t164, .int .i64 t165, .int .i64 t166, .bool t167] 23 (0, 0)) (by (with_reducible repeat (first | refine blk_drewN ?_ _ | refine blk_drew ?_ | refine blk_alloc ?_ _)); exact BK169.out) hb)
    have n2_ := Aside0.mk (blk_below (g := gb175) (o := .cells #[.int .i64 t170, .int .i64 t171, .int .i64 t172, .bool t173] 23 (0, 0)) (by (with_reducible repeat (first | refine blk_drewN ?_ _ | refine blk_drew ?_ | refine blk_alloc ?_ _)); exact BK175.out) hb)
    have n3_ := Aside0.mk (below_step (by repeat (first | (with_reducible first | exact HB.out | apply below_alloc | apply pw_below_drewN | apply below_drew1 | refine below_set ?_ GE163.out | refine below_set ?_ GE169.out | refine below_set ?_ GE175.out) | exact HB.out)) hb)
    clear BK163
    clear BK169
    clear BK175
    clear HB
    have BK163 := n0_
    have BK169 := n1_
    have BK175 := n2_
    have HB := n3_
    clear n0_ n1_ n2_ n3_
    (try clear hb)
    (try clear hb2)
    (try clear hk)
    (try clear hi)
    refine hK.out _ _ ⟨(blk_cell BK163.out 0).trans rfl, (blk_cell BK163.out 1).trans rfl, (blk_cell BK163.out 2).trans rfl, (blk_cell BK163.out 3).trans rfl⟩ (fun hHeld => ?_)
    clear hK K
    refine norm_ (a' := ?_) ?_ ?_
    rotate_left
    · show Act.put _ (some 27) _ = _
      simp only [Act.put, List.setIfInBounds_toArray, List.set_cons_zero, List.set_cons_succ, i64_w, i32_w]
      rfl
    refine pure_ (i := 5) (N := some 28) (v := ?_) (a' := ?_) #[true, true, true, true, true, true] rfl rfl (by kernel_rfl) (fun _ _ _ h => h) (Or.inl ⟨by rfl, ?_⟩) ?_ ?_
    rotate_left
    · intro w'
      go_simp
      with_reducible rfl
    rotate_left
    · simp only [Act.put, List.setIfInBounds_toArray, List.set_cons_zero, List.set_cons_succ, i64_w, i32_w]
      rfl
    refine done_ (by kernel_rfl) ?_
    go_upto_region 5 with (fail)
    go_cut [39] (fun v39 wc => ∃ (kq : Nat) (x39_9 : Bool), v39 = .bool x39_9 ∧ Aside0 (withylaw16_HandNew.j0 kq a0 a1 t168 t174 x39_9 a2_0 a2_1 a2_2 a2_3 t164 t165 t166 t167 t170 t171 t172 t173 = some r) ∧ Aside0 (kq ≤ k) ∧ Aside0 (wc.heap[gb163]? = some (.cells #[.int .i64 a2_0, .int .i64 a2_1, .int .i64 a2_2, .bool a2_3] 23 (0, 0))) ∧ Aside0 (wc.heap[gb169]? = some (.cells #[.int .i64 t164, .int .i64 t165, .int .i64 t166, .bool t167] 23 (0, 0))) ∧ Aside0 (wc.heap[gb175]? = some (.cells #[.int .i64 t170, .int .i64 t171, .int .i64 t172, .bool t173] 23 (0, 0))) ∧ Aside0 (Below w.heap.size w wc))
    case first =>
      have H := HC10.out
      clear HC10
      by_cases c26 : a0 < 0
      · rw [if_pos c26] at H
        have c26b0 : decide (a0 < 0) = true := decide_eq_true c26
        clear c26
        (first | rw [c26b0] | (simp only [i64_w, i32_w]; rw [c26b0]) | skip)
        have H' := Aside0.mk H
        clear H
        go_wp2
        go_meet
        case rel => exact ⟨_, (true), (by first | rfl | (simp; done) | (simp [*]; done) | (congr 1; omega) | (simp; omega)), H', ⟨by first | omega | exact Nat.le_refl _⟩, ⟨by (with_reducible repeat (first | refine blk_drewN ?_ _ | refine blk_drew ?_ | refine blk_alloc ?_ _)); exact BK163.out⟩, ⟨by (with_reducible repeat (first | refine blk_drewN ?_ _ | refine blk_drew ?_ | refine blk_alloc ?_ _)); exact BK169.out⟩, ⟨by (with_reducible repeat (first | refine blk_drewN ?_ _ | refine blk_drew ?_ | refine blk_alloc ?_ _)); exact BK175.out⟩, ⟨by repeat (first | (with_reducible first | exact HB.out | apply below_alloc | apply pw_below_drewN | apply below_drew1 | refine below_set ?_ GE163.out | refine below_set ?_ GE169.out | refine below_set ?_ GE175.out) | exact HB.out)⟩⟩
      · rw [if_neg c26] at H
        have c26b0 : decide (a0 < 0) = false := decide_eq_false c26
        clear c26
        (first | rw [c26b0] | (simp only [i64_w, i32_w]; rw [c26b0]) | skip)
        by_cases c27 : a0 > 2147483647
        · rw [if_pos c27] at H
          have c27b0 : decide (2147483647 < a0) = true := decide_eq_true c27
          clear c27
          have H' := Aside0.mk H
          clear H
          go_wp2
          go_meet
          case rel => exact ⟨_, (true), (by first | rfl | (simp; done) | (simp [*]; done) | (congr 1; omega) | (simp; omega)), H', ⟨by first | omega | exact Nat.le_refl _⟩, ⟨by (with_reducible repeat (first | refine blk_drewN ?_ _ | refine blk_drew ?_ | refine blk_alloc ?_ _)); exact BK163.out⟩, ⟨by (with_reducible repeat (first | refine blk_drewN ?_ _ | refine blk_drew ?_ | refine blk_alloc ?_ _)); exact BK169.out⟩, ⟨by (with_reducible repeat (first | refine blk_drewN ?_ _ | refine blk_drew ?_ | refine blk_alloc ?_ _)); exact BK175.out⟩, ⟨by repeat (first | (with_reducible first | exact HB.out | apply below_alloc | apply pw_below_drewN | apply below_drew1 | refine below_set ?_ GE163.out | refine below_set ?_ GE169.out | refine below_set ?_ GE175.out) | exact HB.out)⟩⟩
        · rw [if_neg c27] at H
          have c27b0 : decide (2147483647 < a0) = false := decide_eq_false c27
          clear c27
          replace H := Option.bind_eq_some_iff.mp H
          obtain ⟨t178, A280, H⟩ := H
          replace H : (withylaw16_HandNew.j0 k a0 a1 t168 t174 (!t178) a2_0 a2_1 a2_2 a2_3 t164 t165 t166 t167 t170 t171 t172 t173) = some r := H
          have A28 := Aside0.mk A280
          clear A280
          have H' := Aside0.mk H
          clear H
          go_wp2_with (first | (go_at_call 13; (with_reducible refine (withyref16_Limit.calls a1 t178 _ A28.out).mono ?_); rintro e w' ⟨rfl, ⟨nd, rfl⟩⟩))
          go_meet
          case rel => exact ⟨_, (!t178), (by first | rfl | (simp; done) | (simp [*]; done) | (congr 1; omega) | (simp; omega)), H', ⟨by first | omega | exact Nat.le_refl _⟩, ⟨by (with_reducible repeat (first | refine blk_drewN ?_ _ | refine blk_drew ?_ | refine blk_alloc ?_ _)); exact BK163.out⟩, ⟨by (with_reducible repeat (first | refine blk_drewN ?_ _ | refine blk_drew ?_ | refine blk_alloc ?_ _)); exact BK169.out⟩, ⟨by (with_reducible repeat (first | refine blk_drewN ?_ _ | refine blk_drew ?_ | refine blk_alloc ?_ _)); exact BK175.out⟩, ⟨by repeat (first | (with_reducible first | exact HB.out | apply below_alloc | apply pw_below_drewN | apply below_drew1 | refine below_set ?_ GE163.out | refine below_set ?_ GE169.out | refine below_set ?_ GE175.out) | exact HB.out)⟩⟩
    case rest =>
      clear HC10
      try clear c1
      try clear c2
      try clear p2
      try clear c4
      try clear q8
      try clear c9
      try clear c10
      try clear c14
      try clear c15
      try clear c16
      try clear c17
      try clear c19
      try clear c20
      try clear c26
      try clear c26b0
      try clear c27
      try clear c27b0
      try clear hcz15_0
      try clear hcz15_1
      try clear hcz15_2
      try clear hcz15_3
      try clear hcz16_0
      try clear hcz16_1
      try clear hcz16_2
      try clear hcz16_3
      try clear hcz21_0
      try clear hcz21_1
      try clear hcz21_2
      try clear hcz21_3
      try clear hfz15_0
      try clear hfz15_1
      try clear hfz15_2
      try clear hfz15_3
      try clear hfz16_0
      try clear hfz16_1
      try clear hfz16_2
      try clear hfz16_3
      try clear hfz21_0
      try clear hfz21_1
      try clear hfz21_2
      try clear hfz21_3
      obtain ⟨kq, x39_9, rfl, HA, HJ9, BK163, BK169, BK175, HB⟩ := hcut
      cases kq with
      | zero => exact absurd HA.out (by simp [withylaw16_HandNew.j0])
      | succ kj9 =>
        have H := HA.out
        clear HA
        simp only [withylaw16_HandNew.j0] at H
        have HC29 := Aside0.mk H
        clear H
        go_upto_if 39 with (fail)
        go_cut [] (fun wc => ∃ (kq : Nat), Aside0 (withylaw16_HandNew.j1 kq a1 t174 a2_0 a2_1 a2_2 a2_3 t170 t171 t172 t173 = some r) ∧ Aside0 (kq ≤ kj9) ∧ Aside0 (wc.heap[gb163]? = some (.cells #[.int .i64 a2_0, .int .i64 a2_1, .int .i64 a2_2, .bool a2_3] 23 (0, 0))) ∧ Aside0 (wc.heap[gb169]? = some (.cells #[.int .i64 t164, .int .i64 t165, .int .i64 t166, .bool t167] 23 (0, 0))) ∧ Aside0 (wc.heap[gb175]? = some (.cells #[.int .i64 t170, .int .i64 t171, .int .i64 t172, .bool t173] 23 (0, 0))) ∧ Aside0 (Below w.heap.size w wc))
        case first =>
          have H := HC29.out
          clear HC29
          by_cases c30 : x39_9 = true
          · subst c30
            have H1 : (if t168 = 1 then (if (!(t164 == 0) || (!(t165 == 0) || (!(t166 == 0) || (t167)))) = true then (some false) else (withylaw16_HandNew.j1 kj9 a1 t174 a2_0 a2_1 a2_2 a2_3 t170 t171 t172 t173)) else (some false)) = some r := by rw [if_pos rfl] at H; exact H
            clear H
            have H := H1
            clear H1
            by_cases c31 : t168 = 1
            · rw [if_pos c31] at H
              have c31b0 : (t168 == 1) = true := beq_iff_eq.mpr c31
              have c31b1 : (t168 != 1) = false := bne_eq_false_iff_eq.mpr c31
              clear c31
              (first | rw [c31b0] | (simp only [i64_w, i32_w]; rw [c31b0]) | skip)
              by_cases c32 : (!(t164 == 0) || (!(t165 == 0) || (!(t166 == 0) || (t167)))) = true
              · rw [if_pos c32] at H
                have c32b0 : (!(t164 == 0) || (!(t165 == 0) || (!(t166 == 0) || (t167)))) = true := c32
                clear c32
                exact absurd ((Option.some.inj H).trans HR_.out) (by simp)
              · rw [if_neg c32] at H
                have c32b0 : (!(t164 == 0) || (!(t165 == 0) || (!(t166 == 0) || (t167)))) = false := by simpa using c32
                clear c32
                have H' := Aside0.mk H
                clear H
                have hnb33 := NB169_163.out
                have hnc33 := NB163_169.out
                have hnb34 := NB169_175.out
                have hnc34 := NB175_169.out
                have hcz35_0 : wc.cell? ⟨gb169, 0, none⟩ = some (.int .i64 t164) := (blk_cell BK169.out 0).trans rfl
                have hcz35_1 : wc.cell? ⟨gb169, 1, none⟩ = some (.int .i64 t165) := (blk_cell BK169.out 1).trans rfl
                have hcz35_2 : wc.cell? ⟨gb169, 2, none⟩ = some (.int .i64 t166) := (blk_cell BK169.out 2).trans rfl
                have hcz35_3 : wc.cell? ⟨gb169, 3, none⟩ = some (.bool t167) := (blk_cell BK169.out 3).trans rfl
                have hfz35_0 := blk_frozen BK169.out 0
                have hfz35_1 := blk_frozen BK169.out 1
                have hfz35_2 := blk_frozen BK169.out 2
                have hfz35_3 := blk_frozen BK169.out 3
                go_wp2
                go_meet
                case rel => exact ⟨_, H', ⟨by have := HJ9.out; first | omega | exact Nat.le_refl _⟩, ⟨by (with_reducible repeat (first | refine blk_drewN ?_ _ | refine blk_drew ?_ | refine blk_alloc ?_ _)); exact BK163.out⟩, ⟨by (with_reducible repeat (first | refine blk_drewN ?_ _ | refine blk_drew ?_ | refine blk_alloc ?_ _)); exact BK169.out⟩, ⟨by (with_reducible repeat (first | refine blk_drewN ?_ _ | refine blk_drew ?_ | refine blk_alloc ?_ _)); exact BK175.out⟩, ⟨by repeat (first | (with_reducible first | exact HB.out | apply below_alloc | apply pw_below_drewN | apply below_drew1 | refine below_set ?_ GE163.out | refine below_set ?_ GE169.out | refine below_set ?_ GE175.out) | exact HB.out)⟩⟩
            · rw [if_neg c31] at H
              have c31b0 : (t168 == 1) = false := beq_eq_false_iff_ne.mpr c31
              have c31b1 : (t168 != 1) = true := bne_iff_ne.mpr c31
              (first | rw [c31b0] | (simp only [i64_w, i32_w]; rw [c31b0]) | skip)
              exact absurd ((Option.some.inj H).trans HR_.out) (by simp)
          · replace c30 := Bool.eq_false_iff.mpr c30
            subst c30
            have H1 : (if t168 = 0 then ((withyref16_New.f a0 a1).bind fun bt179 => (if (!(t164 == bt179.1) || (!(t165 == bt179.2.1) || (!(t166 == bt179.2.2.1) || (!(t167 == bt179.2.2.2))))) = true then (some false) else ((withyref16_May.f kj9 t164 t165 t166 t167).bind fun t183 => (if t183 = true then (withylaw16_HandNew.j1 kj9 a1 t174 a2_0 a2_1 a2_2 a2_3 t170 t171 t172 t173) else (some false))))) else (some false)) = some r := by rw [if_neg (show ¬ (false = true) by decide)] at H; exact H
            clear H
            have H := H1
            clear H1
            by_cases c36 : t168 = 0
            · rw [if_pos c36] at H
              have c36b0 : (t168 == 0) = true := beq_iff_eq.mpr c36
              have c36b1 : (t168 != 0) = false := bne_eq_false_iff_eq.mpr c36
              clear c36
              replace H := Option.bind_eq_some_iff.mp H
              obtain ⟨⟨t179, t180, t181, t182⟩, A370, H⟩ := H
              replace H : (if (!(t164 == t179) || (!(t165 == t180) || (!(t166 == t181) || (!(t167 == t182))))) = true then (some false) else ((withyref16_May.f kj9 t164 t165 t166 t167).bind fun t183 => (if t183 = true then (withylaw16_HandNew.j1 kj9 a1 t174 a2_0 a2_1 a2_2 a2_3 t170 t171 t172 t173) else (some false)))) = some r := H
              have A37 := Aside0.mk A370
              clear A370
              by_cases c38 : (!(t164 == t179) || (!(t165 == t180) || (!(t166 == t181) || (!(t167 == t182))))) = true
              · rw [if_pos c38] at H
                have c38b0 : (!(t164 == t179) || (!(t165 == t180) || (!(t166 == t181) || (!(t167 == t182))))) = true := c38
                clear c38
                exact absurd ((Option.some.inj H).trans HR_.out) (by simp)
              · rw [if_neg c38] at H
                have c38b0 : (!(t164 == t179) || (!(t165 == t180) || (!(t166 == t181) || (!(t167 == t182))))) = false := by simpa using c38
                clear c38
                replace H := Option.bind_eq_some_iff.mp H
                obtain ⟨t183, A390, H⟩ := H
                replace H : (if t183 = true then (withylaw16_HandNew.j1 kj9 a1 t174 a2_0 a2_1 a2_2 a2_3 t170 t171 t172 t173) else (some false)) = some r := H
                have A39 := Aside0.mk A390
                clear A390
                by_cases c40 : t183 = true
                · subst c40
                  have H1 : (withylaw16_HandNew.j1 kj9 a1 t174 a2_0 a2_1 a2_2 a2_3 t170 t171 t172 t173) = some r := by rw [if_pos rfl] at H; exact H
                  clear H
                  have H := H1
                  clear H1
                  have H' := Aside0.mk H
                  clear H
                  try go_wp2
                  have n0_ := Aside0.mk (blk_drew BK163.out)
                  have n1_ := Aside0.mk (blk_drew BK169.out)
                  have n2_ := Aside0.mk (blk_drew BK175.out)
                  have n3_ := Aside0.mk (below_drew1 HB.out)
                  clear BK163
                  clear BK169
                  clear BK175
                  clear HB
                  have BK163 := n0_
                  have BK169 := n1_
                  have BK175 := n2_
                  have HB := n3_
                  clear n0_ n1_ n2_ n3_
                  refine start_ (n := 14) (S := fun w' => w'.cell? ⟨gb169, 0, none⟩ = some (.int .i64 t164) ∧ w'.cell? ⟨gb169, 1, none⟩ = some (.int .i64 t165) ∧ w'.cell? ⟨gb169, 2, none⟩ = some (.int .i64 t166) ∧ w'.cell? ⟨gb169, 3, none⟩ = some (.bool t167)) (ds := []) #[false, false, false, false, false, false, false, false, false, false, false, false, false, false] (by kernel_rfl) rfl rfl ⟨(blk_cell BK169.out 0).trans rfl, (blk_cell BK169.out 1).trans rfl, (blk_cell BK169.out 2).trans rfl, (blk_cell BK169.out 3).trans rfl⟩ (fun hHeld => ?_); refine with_tabW withylaw16_HandNew.tab8 withylaw16_HandNew.bits8 (fun HT_ HW_ => ?_)
                  generalize wc.drew = w41 at BK163 BK169 BK175 HB hHeld ⊢
                  refine pure_ (i := 0) (N := some 47) (v := ?_) (a' := ?_) #[true, false, false, false, false, false, false, false, false, false, false, false, false, false] rfl rfl (any_of HT_.out (by kernel_rfl)) (fun _ _ _ h => h) (Or.inl ⟨by rfl, ?_⟩) ?_ ?_
                  rotate_left
                  · intro w'
                    go_simp
                    with_reducible rfl
                  rotate_left
                  · simp only [Act.put, List.setIfInBounds_toArray, List.set_cons_zero, List.set_cons_succ, i64_w, i32_w]
                    rfl
                  refine pure_ (i := 1) (N := some 48) (v := ?_) (a' := ?_) #[true, true, false, false, false, false, false, false, false, false, false, false, false, false] rfl rfl (any_of HT_.out (by kernel_rfl)) (fun _ _ _ h => h) (Or.inl ⟨by rfl, ?_⟩) ?_ ?_
                  rotate_left
                  · intro w'
                    go_simp
                    with_reducible rfl
                  rotate_left
                  · simp only [Act.put, List.setIfInBounds_toArray, List.set_cons_zero, List.set_cons_succ, i64_w, i32_w]
                    rfl
                  refine pure_ (i := 2) (N := some 49) (v := ?_) (a' := ?_) #[true, true, true, false, false, false, false, false, false, false, false, false, false, false] rfl rfl (any_of HT_.out (by kernel_rfl)) (fun _ _ _ h => h) (Or.inl ⟨by rfl, ?_⟩) ?_ ?_
                  rotate_left
                  · intro w'
                    go_simp
                    with_reducible rfl
                  rotate_left
                  · simp only [Act.put, List.setIfInBounds_toArray, List.set_cons_zero, List.set_cons_succ, i64_w, i32_w]
                    rfl
                  refine pure_ (i := 4) (N := some 51) (v := ?_) (a' := ?_) #[true, true, true, false, true, false, false, false, false, false, false, false, false, false] rfl rfl (any_of HT_.out (by kernel_rfl)) (fun _ _ _ h => h) (Or.inl ⟨by rfl, ?_⟩) ?_ ?_
                  rotate_left
                  · intro w'
                    go_simp
                    with_reducible rfl
                  rotate_left
                  · simp only [Act.put, List.setIfInBounds_toArray, List.set_cons_zero, List.set_cons_succ, i64_w, i32_w]
                    rfl
                  refine pure_ (i := 5) (N := some 52) (v := ?_) (a' := ?_) #[true, true, true, false, true, true, false, false, false, false, false, false, false, false] rfl rfl (any_of HT_.out (by kernel_rfl)) (fun _ _ _ h => h) (Or.inl ⟨by rfl, ?_⟩) ?_ ?_
                  rotate_left
                  · intro w'
                    go_simp
                    with_reducible rfl
                  rotate_left
                  · simp only [Act.put, List.setIfInBounds_toArray, List.set_cons_zero, List.set_cons_succ, i64_w, i32_w]
                    rfl
                  refine take_ (i := 3) (N := some 50) (v := ?_) (a' := ?_) #[true, true, true, true, true, true, false, false, false, false, false, false, false, false] rfl rfl (take_ofW HT_.out HW_.out (by kernel_rfl)) (fun _ _ _ h => h) (Or.inl ⟨by rfl, ?_⟩) hHeld ?_ ?_
                  rotate_left
                  · rintro w' ⟨s0, s1, s2, s3⟩
                    go_simp
                    with_reducible rfl
                  rotate_left
                  · simp only [Act.put, List.setIfInBounds_toArray, List.set_cons_zero, List.set_cons_succ, i64_w, i32_w]
                    rfl
                  refine one_ (i := 6) (N := some 53) #[true, true, true, true, true, true, true, false, false, false, false, false, false, false] rfl rfl (one_of HT_.out (by kernel_rfl)) (by decide) (fun K hK => ?_)
                  refine goes_ Try.func18 (by kernel_rfl) rfl #[.int .i64 a0, .int .i64 a1] (by rfl) rfl rfl (by (try simp only [List.map_toArray, List.map_cons, List.map_nil]); first | done | rfl | (simp only [List.length_drop, List.length_take]; rfl)) ?_
                  with_reducible refine (withyref16_New.calls a0 a1 t179 t180 t181 t182 _ A37.out).mono ?_
                  rintro e w42 ⟨rfl, hb⟩
                  refine ⟨_, rfl, ?_⟩
                  have n0_ := Aside0.mk (blk_below (g := gb163) (o := .cells #[.int .i64 a2_0, .int .i64 a2_1, .int .i64 a2_2, .bool a2_3] 23 (0, 0)) (by (with_reducible repeat (first | refine blk_drewN ?_ _ | refine blk_drew ?_ | refine blk_alloc ?_ _)); exact BK163.out) hb)
                  have n1_ := Aside0.mk (blk_below (g := gb169) (o := .cells #[.int .i64 t164, .int .i64 t165, .int .i64 t166, .bool t167] 23 (0, 0)) (by (with_reducible repeat (first | refine blk_drewN ?_ _ | refine blk_drew ?_ | refine blk_alloc ?_ _)); exact BK169.out) hb)
                  have n2_ := Aside0.mk (blk_below (g := gb175) (o := .cells #[.int .i64 t170, .int .i64 t171, .int .i64 t172, .bool t173] 23 (0, 0)) (by (with_reducible repeat (first | refine blk_drewN ?_ _ | refine blk_drew ?_ | refine blk_alloc ?_ _)); exact BK175.out) hb)
                  have n3_ := Aside0.mk (below_step (by repeat (first | (with_reducible first | exact HB.out | apply below_alloc | apply pw_below_drewN | apply below_drew1 | refine below_set ?_ GE163.out | refine below_set ?_ GE169.out | refine below_set ?_ GE175.out) | exact HB.out)) hb)
                  clear BK163
                  clear BK169
                  clear BK175
                  clear HB
                  have BK163 := n0_
                  have BK169 := n1_
                  have BK175 := n2_
                  have HB := n3_
                  clear n0_ n1_ n2_ n3_
                  (try clear hb)
                  (try clear hb2)
                  (try clear hk)
                  (try clear hi)
                  refine hK.out _ _ ⟨(blk_cell BK169.out 0).trans rfl, (blk_cell BK169.out 1).trans rfl, (blk_cell BK169.out 2).trans rfl, (blk_cell BK169.out 3).trans rfl⟩ (fun hHeld => ?_)
                  clear hK K
                  refine norm_ (a' := ?_) ?_ ?_
                  rotate_left
                  · show Act.put _ (some 53) _ = _
                    simp only [Act.put, List.setIfInBounds_toArray, List.set_cons_zero, List.set_cons_succ, i64_w, i32_w]
                    rfl
                  refine pure_ (i := 7) (N := some 54) (v := ?_) (a' := ?_) #[true, true, true, true, true, true, true, true, false, false, false, false, false, false] rfl rfl (any_of HT_.out (by kernel_rfl)) (fun _ _ _ h => h) (Or.inl ⟨by rfl, ?_⟩) ?_ ?_
                  rotate_left
                  · intro w'
                    go_simp
                    with_reducible rfl
                  rotate_left
                  · simp only [Act.put, List.setIfInBounds_toArray, List.set_cons_zero, List.set_cons_succ, i64_w, i32_w]
                    rfl
                  refine pure_ (i := 8) (N := some 55) (v := ?_) (a' := ?_) #[true, true, true, true, true, true, true, true, true, false, false, false, false, false] rfl rfl (any_of HT_.out (by kernel_rfl)) (fun _ _ _ h => h) (Or.inl ⟨by rfl, ?_⟩) ?_ ?_
                  rotate_left
                  · intro w'
                    go_simp
                    with_reducible rfl
                  rotate_left
                  · simp only [Act.put, List.setIfInBounds_toArray, List.set_cons_zero, List.set_cons_succ, i64_w, i32_w]
                    rfl
                  refine pure_ (i := 9) (N := some 56) (v := ?_) (a' := ?_) #[true, true, true, true, true, true, true, true, true, true, false, false, false, false] rfl rfl (any_of HT_.out (by kernel_rfl)) (fun _ _ _ h => h) (Or.inl ⟨by rfl, ?_⟩) ?_ ?_
                  rotate_left
                  · intro w'
                    go_simp
                    with_reducible rfl
                  rotate_left
                  · simp only [Act.put, List.setIfInBounds_toArray, List.set_cons_zero, List.set_cons_succ, i64_w, i32_w]
                    rfl
                  refine take_ (i := 10) (N := some 57) (v := ?_) (a' := ?_) #[true, true, true, true, true, true, true, true, true, true, true, false, false, false] rfl rfl (take_ofW HT_.out HW_.out (by kernel_rfl)) (fun _ _ _ h => h) (Or.inl ⟨by rfl, ?_⟩) hHeld ?_ ?_
                  rotate_left
                  · rintro w' ⟨s0, s1, s2, s3⟩
                    go_simp
                    with_reducible rfl
                  rotate_left
                  · simp only [Act.put, List.setIfInBounds_toArray, List.set_cons_zero, List.set_cons_succ, i64_w, i32_w]
                    rfl
                  refine one_ (i := 11) (N := some 58) #[true, true, true, true, true, true, true, true, true, true, true, true, false, false] rfl rfl (one_of HT_.out (by kernel_rfl)) (by decide) (fun K hK => ?_)
                  refine goes_ Try.func10 (by kernel_rfl) rfl #[.agg #[.int .i64 t164, .int .i64 t165, .int .i64 t166, .bool t167]] (by rfl) rfl rfl (by (try simp only [List.map_toArray, List.map_cons, List.map_nil]); first | done | rfl | (simp only [List.length_drop, List.length_take]; rfl)) ?_
                  with_reducible refine (withyref16_May.calls kj9 t164 t165 t166 t167 true _ A39.out).mono ?_
                  rintro e w43 ⟨rfl, hb⟩
                  refine ⟨_, rfl, ?_⟩
                  have n0_ := Aside0.mk (blk_below (g := gb163) (o := .cells #[.int .i64 a2_0, .int .i64 a2_1, .int .i64 a2_2, .bool a2_3] 23 (0, 0)) (by (with_reducible repeat (first | refine blk_drewN ?_ _ | refine blk_drew ?_ | refine blk_alloc ?_ _)); exact BK163.out) hb)
                  have n1_ := Aside0.mk (blk_below (g := gb169) (o := .cells #[.int .i64 t164, .int .i64 t165, .int .i64 t166, .bool t167] 23 (0, 0)) (by (with_reducible repeat (first | refine blk_drewN ?_ _ | refine blk_drew ?_ | refine blk_alloc ?_ _)); exact BK169.out) hb)
                  have n2_ := Aside0.mk (blk_below (g := gb175) (o := .cells #[.int .i64 t170, .int .i64 t171, .int .i64 t172, .bool t173] 23 (0, 0)) (by (with_reducible repeat (first | refine blk_drewN ?_ _ | refine blk_drew ?_ | refine blk_alloc ?_ _)); exact BK175.out) hb)
                  have n3_ := Aside0.mk (below_step (by repeat (first | (with_reducible first | exact HB.out | apply below_alloc | apply pw_below_drewN | apply below_drew1 | refine below_set ?_ GE163.out | refine below_set ?_ GE169.out | refine below_set ?_ GE175.out) | exact HB.out)) hb)
                  clear BK163
                  clear BK169
                  clear BK175
                  clear HB
                  have BK163 := n0_
                  have BK169 := n1_
                  have BK175 := n2_
                  have HB := n3_
                  clear n0_ n1_ n2_ n3_
                  (try clear hb)
                  (try clear hb2)
                  (try clear hk)
                  (try clear hi)
                  refine hK.out _ _ ⟨(blk_cell BK169.out 0).trans rfl, (blk_cell BK169.out 1).trans rfl, (blk_cell BK169.out 2).trans rfl, (blk_cell BK169.out 3).trans rfl⟩ (fun hHeld => ?_)
                  clear hK K
                  refine norm_ (a' := ?_) ?_ ?_
                  rotate_left
                  · show Act.put _ (some 58) _ = _
                    simp only [Act.put, List.setIfInBounds_toArray, List.set_cons_zero, List.set_cons_succ, i64_w, i32_w]
                    rfl
                  refine pure_ (i := 12) (N := some 59) (v := ?_) (a' := ?_) #[true, true, true, true, true, true, true, true, true, true, true, true, true, false] rfl rfl (any_of HT_.out (by kernel_rfl)) (fun _ _ _ h => h) (Or.inl ⟨by rfl, ?_⟩) ?_ ?_
                  rotate_left
                  · intro w'
                    go_simp
                    with_reducible rfl
                  rotate_left
                  · simp only [Act.put, List.setIfInBounds_toArray, List.set_cons_zero, List.set_cons_succ, i64_w, i32_w]
                    rfl
                  refine pure_ (i := 13) (N := some 60) (v := ?_) (a' := ?_) #[true, true, true, true, true, true, true, true, true, true, true, true, true, true] rfl rfl (any_of HT_.out (by kernel_rfl)) (fun _ _ _ h => h) (Or.inl ⟨by rfl, ?_⟩) ?_ ?_
                  rotate_left
                  · intro w'
                    go_simp
                    with_reducible rfl
                  rotate_left
                  · simp only [Act.put, List.setIfInBounds_toArray, List.set_cons_zero, List.set_cons_succ, i64_w, i32_w]
                    rfl
                  refine done_ (done_of HT_.out (by kernel_rfl)) ?_
                  try go_wp2
                  go_meet
                  case rel => exact ⟨_, H', ⟨by have := HJ9.out; first | omega | exact Nat.le_refl _⟩, ⟨by (with_reducible repeat (first | refine blk_drewN ?_ _ | refine blk_drew ?_ | refine blk_alloc ?_ _)); exact BK163.out⟩, ⟨by (with_reducible repeat (first | refine blk_drewN ?_ _ | refine blk_drew ?_ | refine blk_alloc ?_ _)); exact BK169.out⟩, ⟨by (with_reducible repeat (first | refine blk_drewN ?_ _ | refine blk_drew ?_ | refine blk_alloc ?_ _)); exact BK175.out⟩, ⟨by repeat (first | (with_reducible first | exact HB.out | apply below_alloc | apply pw_below_drewN | apply below_drew1 | refine below_set ?_ GE163.out | refine below_set ?_ GE169.out | refine below_set ?_ GE175.out) | exact HB.out)⟩⟩
                · replace c40 := Bool.eq_false_iff.mpr c40
                  subst c40
                  have H1 : (some false) = some r := by rw [if_neg (show ¬ (false = true) by decide)] at H; exact H
                  clear H
                  have H := H1
                  clear H1
                  exact absurd ((Option.some.inj H).trans HR_.out) (by simp)
            · rw [if_neg c36] at H
              have c36b0 : (t168 == 0) = false := beq_eq_false_iff_ne.mpr c36
              have c36b1 : (t168 != 0) = true := bne_iff_ne.mpr c36
              exact absurd ((Option.some.inj H).trans HR_.out) (by simp)
        case rest =>
          clear HC29
          try clear c1
          try clear c2
          try clear p2
          try clear c3
          try clear c4
          try clear q8
          try clear c9
          try clear c10
          try clear c14
          try clear c15
          try clear c16
          try clear c17
          try clear c18
          try clear c19
          try clear c20
          try clear c26
          try clear c26b0
          try clear c27
          try clear c27b0
          try clear c30
          try clear c31
          try clear c31b0
          try clear c31b1
          try clear c32
          try clear c32b0
          try clear c33
          try clear c34
          try clear c36
          try clear c36b0
          try clear c36b1
          try clear c38
          try clear c38b0
          try clear c40
          try clear hcz15_0
          try clear hcz15_1
          try clear hcz15_2
          try clear hcz15_3
          try clear hcz16_0
          try clear hcz16_1
          try clear hcz16_2
          try clear hcz16_3
          try clear hcz21_0
          try clear hcz21_1
          try clear hcz21_2
          try clear hcz21_3
          try clear hcz35_0
          try clear hcz35_1
          try clear hcz35_2
          try clear hcz35_3
          try clear hfz15_0
          try clear hfz15_1
          try clear hfz15_2
          try clear hfz15_3
          try clear hfz16_0
          try clear hfz16_1
          try clear hfz16_2
          try clear hfz16_3
          try clear hfz21_0
          try clear hfz21_1
          try clear hfz21_2
          try clear hfz21_3
          try clear hfz35_0
          try clear hfz35_1
          try clear hfz35_2
          try clear hfz35_3
          try clear p2
          try clear q8
          obtain ⟨kq, HA, HJ28, BK163, BK169, BK175, HB⟩ := hcut
          cases kq with
          | zero => exact absurd HA.out (by simp [withylaw16_HandNew.j1])
          | succ kj28 =>
            have H := HA.out
            clear HA
            simp only [withylaw16_HandNew.j1] at H
            have HC44 := Aside0.mk H
            clear H
            go_upto_region 10 with (fail)
            go_cut [68] (fun v68 wc => ∃ (kq : Nat) (x68_43 : Bool), v68 = .bool x68_43 ∧ Aside0 (withylaw16_HandNew.j2 kq a1 t174 x68_43 a2_0 a2_1 a2_2 a2_3 t170 t171 t172 t173 = some r) ∧ Aside0 (kq ≤ kj28) ∧ Aside0 (wc.heap[gb163]? = some (.cells #[.int .i64 a2_0, .int .i64 a2_1, .int .i64 a2_2, .bool a2_3] 23 (0, 0))) ∧ Aside0 (wc.heap[gb169]? = some (.cells #[.int .i64 t164, .int .i64 t165, .int .i64 t166, .bool t167] 23 (0, 0))) ∧ Aside0 (wc.heap[gb175]? = some (.cells #[.int .i64 t170, .int .i64 t171, .int .i64 t172, .bool t173] 23 (0, 0))) ∧ Aside0 (Below w.heap.size w wc))
            case first =>
              have H := HC44.out
              clear HC44
              replace H := Option.bind_eq_some_iff.mp H
              obtain ⟨t184, A450, H⟩ := H
              replace H : (if t184 = true then ((withyref16_Limit.f a1).bind fun t185 => (withylaw16_HandNew.j2 kj28 a1 t174 (!t185) a2_0 a2_1 a2_2 a2_3 t170 t171 t172 t173)) else (withylaw16_HandNew.j2 kj28 a1 t174 true a2_0 a2_1 a2_2 a2_3 t170 t171 t172 t173)) = some r := H
              have A45 := Aside0.mk A450
              clear A450
              by_cases c46 : t184 = true
              · subst c46
                have H1 : ((withyref16_Limit.f a1).bind fun t185 => (withylaw16_HandNew.j2 kj28 a1 t174 (!t185) a2_0 a2_1 a2_2 a2_3 t170 t171 t172 t173)) = some r := by rw [if_pos rfl] at H; exact H
                clear H
                have H := H1
                clear H1
                replace H := Option.bind_eq_some_iff.mp H
                obtain ⟨t185, A470, H⟩ := H
                replace H : (withylaw16_HandNew.j2 kj28 a1 t174 (!t185) a2_0 a2_1 a2_2 a2_3 t170 t171 t172 t173) = some r := H
                have A47 := Aside0.mk A470
                clear A470
                have H' := Aside0.mk H
                clear H
                have hnb48 := NB163_169.out
                have hnc48 := NB169_163.out
                have hnb49 := NB163_175.out
                have hnc49 := NB175_163.out
                have hcz50_0 : wc.cell? ⟨gb163, 0, none⟩ = some (.int .i64 a2_0) := (blk_cell BK163.out 0).trans rfl
                have hcz50_1 : wc.cell? ⟨gb163, 1, none⟩ = some (.int .i64 a2_1) := (blk_cell BK163.out 1).trans rfl
                have hcz50_2 : wc.cell? ⟨gb163, 2, none⟩ = some (.int .i64 a2_2) := (blk_cell BK163.out 2).trans rfl
                have hcz50_3 : wc.cell? ⟨gb163, 3, none⟩ = some (.bool a2_3) := (blk_cell BK163.out 3).trans rfl
                have hfz50_0 := blk_frozen BK163.out 0
                have hfz50_1 := blk_frozen BK163.out 1
                have hfz50_2 := blk_frozen BK163.out 2
                have hfz50_3 := blk_frozen BK163.out 3
                go_wp2_with (first | ((with_reducible refine gate_callee (f := 10) rfl ?_); refine goesL_ (some 62) rfl rfl Try.func10 (by kernel_rfl) rfl #[.agg #[.int .i64 a2_0, .int .i64 a2_1, .int .i64 a2_2, .bool a2_3]] rfl (by (try simp only [List.map_toArray, List.map_cons, List.map_nil]); first | done | rfl | (simp only [List.length_drop, List.length_take]; rfl)) ?_; (with_reducible refine (withyref16_May.calls kj28 a2_0 a2_1 a2_2 a2_3 true _ A45.out).mono ?_); rintro e w51 ⟨rfl, hb⟩; refine ⟨_, rfl, ?_⟩; have n0_ := Aside0.mk (blk_below (g := gb163) (o := .cells #[.int .i64 a2_0, .int .i64 a2_1, .int .i64 a2_2, .bool a2_3] 23 (0, 0)) (by (with_reducible repeat (first | refine blk_drewN ?_ _ | refine blk_drew ?_ | refine blk_alloc ?_ _)); exact BK163.out) hb); have n1_ := Aside0.mk (blk_below (g := gb169) (o := .cells #[.int .i64 t164, .int .i64 t165, .int .i64 t166, .bool t167] 23 (0, 0)) (by (with_reducible repeat (first | refine blk_drewN ?_ _ | refine blk_drew ?_ | refine blk_alloc ?_ _)); exact BK169.out) hb); have n2_ := Aside0.mk (blk_below (g := gb175) (o := .cells #[.int .i64 t170, .int .i64 t171, .int .i64 t172, .bool t173] 23 (0, 0)) (by (with_reducible repeat (first | refine blk_drewN ?_ _ | refine blk_drew ?_ | refine blk_alloc ?_ _)); exact BK175.out) hb); have n3_ := Aside0.mk (below_step (by repeat (first | (with_reducible first | exact HB.out | apply below_alloc | apply pw_below_drewN | apply below_drew1 | refine below_set ?_ GE163.out | refine below_set ?_ GE169.out | refine below_set ?_ GE175.out) | exact HB.out)) hb); clear BK163; clear BK169; clear BK175; clear HB; have BK163 := n0_; have BK169 := n1_; have BK175 := n2_; have HB := n3_; clear n0_ n1_ n2_ n3_; (try clear hb); (try clear hb2); (try clear hk); (try clear hi)) | (go_at_call 13; (with_reducible refine (withyref16_Limit.calls a1 t185 _ A47.out).mono ?_); rintro e w' ⟨rfl, ⟨nd, rfl⟩⟩))
                go_meet
                case rel => exact ⟨_, (!t185), (by first | rfl | (simp; done) | (simp [*]; done) | (congr 1; omega) | (simp; omega)), H', ⟨by have := HJ9.out; have := HJ28.out; first | omega | exact Nat.le_refl _⟩, ⟨by (with_reducible repeat (first | refine blk_drewN ?_ _ | refine blk_drew ?_ | refine blk_alloc ?_ _)); exact BK163.out⟩, ⟨by (with_reducible repeat (first | refine blk_drewN ?_ _ | refine blk_drew ?_ | refine blk_alloc ?_ _)); exact BK169.out⟩, ⟨by (with_reducible repeat (first | refine blk_drewN ?_ _ | refine blk_drew ?_ | refine blk_alloc ?_ _)); exact BK175.out⟩, ⟨by repeat (first | (with_reducible first | exact HB.out | apply below_alloc | apply pw_below_drewN | apply below_drew1 | refine below_set ?_ GE163.out | refine below_set ?_ GE169.out | refine below_set ?_ GE175.out) | exact HB.out)⟩⟩
              · replace c46 := Bool.eq_false_iff.mpr c46
                subst c46
                have H1 : (withylaw16_HandNew.j2 kj28 a1 t174 true a2_0 a2_1 a2_2 a2_3 t170 t171 t172 t173) = some r := by rw [if_neg (show ¬ (false = true) by decide)] at H; exact H
                clear H
                have H := H1
                clear H1
                have H' := Aside0.mk H
                clear H
                have hnb52 := NB163_169.out
                have hnc52 := NB169_163.out
                have hnb53 := NB163_175.out
                have hnc53 := NB175_163.out
                have hcz54_0 : wc.cell? ⟨gb163, 0, none⟩ = some (.int .i64 a2_0) := (blk_cell BK163.out 0).trans rfl
                have hcz54_1 : wc.cell? ⟨gb163, 1, none⟩ = some (.int .i64 a2_1) := (blk_cell BK163.out 1).trans rfl
                have hcz54_2 : wc.cell? ⟨gb163, 2, none⟩ = some (.int .i64 a2_2) := (blk_cell BK163.out 2).trans rfl
                have hcz54_3 : wc.cell? ⟨gb163, 3, none⟩ = some (.bool a2_3) := (blk_cell BK163.out 3).trans rfl
                have hfz54_0 := blk_frozen BK163.out 0
                have hfz54_1 := blk_frozen BK163.out 1
                have hfz54_2 := blk_frozen BK163.out 2
                have hfz54_3 := blk_frozen BK163.out 3
                go_wp2_with (first | ((with_reducible refine gate_callee (f := 10) rfl ?_); refine goesL_ (some 62) rfl rfl Try.func10 (by kernel_rfl) rfl #[.agg #[.int .i64 a2_0, .int .i64 a2_1, .int .i64 a2_2, .bool a2_3]] rfl (by (try simp only [List.map_toArray, List.map_cons, List.map_nil]); first | done | rfl | (simp only [List.length_drop, List.length_take]; rfl)) ?_; (with_reducible refine (withyref16_May.calls kj28 a2_0 a2_1 a2_2 a2_3 false _ A45.out).mono ?_); rintro e w55 ⟨rfl, hb⟩; refine ⟨_, rfl, ?_⟩; have n0_ := Aside0.mk (blk_below (g := gb163) (o := .cells #[.int .i64 a2_0, .int .i64 a2_1, .int .i64 a2_2, .bool a2_3] 23 (0, 0)) (by (with_reducible repeat (first | refine blk_drewN ?_ _ | refine blk_drew ?_ | refine blk_alloc ?_ _)); exact BK163.out) hb); have n1_ := Aside0.mk (blk_below (g := gb169) (o := .cells #[.int .i64 t164, .int .i64 t165, .int .i64 t166, .bool t167] 23 (0, 0)) (by (with_reducible repeat (first | refine blk_drewN ?_ _ | refine blk_drew ?_ | refine blk_alloc ?_ _)); exact BK169.out) hb); have n2_ := Aside0.mk (blk_below (g := gb175) (o := .cells #[.int .i64 t170, .int .i64 t171, .int .i64 t172, .bool t173] 23 (0, 0)) (by (with_reducible repeat (first | refine blk_drewN ?_ _ | refine blk_drew ?_ | refine blk_alloc ?_ _)); exact BK175.out) hb); have n3_ := Aside0.mk (below_step (by repeat (first | (with_reducible first | exact HB.out | apply below_alloc | apply pw_below_drewN | apply below_drew1 | refine below_set ?_ GE163.out | refine below_set ?_ GE169.out | refine below_set ?_ GE175.out) | exact HB.out)) hb); clear BK163; clear BK169; clear BK175; clear HB; have BK163 := n0_; have BK169 := n1_; have BK175 := n2_; have HB := n3_; clear n0_ n1_ n2_ n3_; (try clear hb); (try clear hb2); (try clear hk); (try clear hi)))
                go_meet
                case rel => exact ⟨_, (true), (by first | rfl | (simp; done) | (simp [*]; done) | (congr 1; omega) | (simp; omega)), H', ⟨by have := HJ9.out; have := HJ28.out; first | omega | exact Nat.le_refl _⟩, ⟨by (with_reducible repeat (first | refine blk_drewN ?_ _ | refine blk_drew ?_ | refine blk_alloc ?_ _)); exact BK163.out⟩, ⟨by (with_reducible repeat (first | refine blk_drewN ?_ _ | refine blk_drew ?_ | refine blk_alloc ?_ _)); exact BK169.out⟩, ⟨by (with_reducible repeat (first | refine blk_drewN ?_ _ | refine blk_drew ?_ | refine blk_alloc ?_ _)); exact BK175.out⟩, ⟨by repeat (first | (with_reducible first | exact HB.out | apply below_alloc | apply pw_below_drewN | apply below_drew1 | refine below_set ?_ GE163.out | refine below_set ?_ GE169.out | refine below_set ?_ GE175.out) | exact HB.out)⟩⟩
            case rest =>
              clear HC44
              try clear c1
              try clear c2
              try clear p2
              try clear c3
              try clear c4
              try clear c5
              try clear q8
              try clear c9
              try clear c10
              try clear c14
              try clear c15
              try clear c16
              try clear c17
              try clear c18
              try clear c19
              try clear c20
              try clear c26
              try clear c26b0
              try clear c27
              try clear c27b0
              try clear c30
              try clear c31
              try clear c31b0
              try clear c31b1
              try clear c32
              try clear c32b0
              try clear c33
              try clear c34
              try clear c36
              try clear c36b0
              try clear c36b1
              try clear c38
              try clear c38b0
              try clear c40
              try clear c46
              try clear c48
              try clear c49
              try clear c52
              try clear c53
              try clear hcz15_0
              try clear hcz15_1
              try clear hcz15_2
              try clear hcz15_3
              try clear hcz16_0
              try clear hcz16_1
              try clear hcz16_2
              try clear hcz16_3
              try clear hcz21_0
              try clear hcz21_1
              try clear hcz21_2
              try clear hcz21_3
              try clear hcz35_0
              try clear hcz35_1
              try clear hcz35_2
              try clear hcz35_3
              try clear hcz50_0
              try clear hcz50_1
              try clear hcz50_2
              try clear hcz50_3
              try clear hcz54_0
              try clear hcz54_1
              try clear hcz54_2
              try clear hcz54_3
              try clear hfz15_0
              try clear hfz15_1
              try clear hfz15_2
              try clear hfz15_3
              try clear hfz16_0
              try clear hfz16_1
              try clear hfz16_2
              try clear hfz16_3
              try clear hfz21_0
              try clear hfz21_1
              try clear hfz21_2
              try clear hfz21_3
              try clear hfz35_0
              try clear hfz35_1
              try clear hfz35_2
              try clear hfz35_3
              try clear hfz50_0
              try clear hfz50_1
              try clear hfz50_2
              try clear hfz50_3
              try clear hfz54_0
              try clear hfz54_1
              try clear hfz54_2
              try clear hfz54_3
              try clear p2
              try clear q8
              obtain ⟨kq, x68_43, rfl, HA, HJ43, BK163, BK169, BK175, HB⟩ := hcut
              cases kq with
              | zero => exact absurd HA.out (by simp [withylaw16_HandNew.j2])
              | succ kj43 =>
                have H := HA.out
                clear HA
                simp only [withylaw16_HandNew.j2] at H
                by_cases c56 : x68_43 = true
                · subst c56
                  have H1 : (if t174 = 1 then (if (t170 == 0 && (t171 == 0 && (t172 == 0 && (!t173)))) = true then ((withylaw16_awake.f kj43).bind fun t186 => (some t186)) else (some false)) else (some false)) = some r := by rw [if_pos rfl] at H; exact H
                  clear H
                  have H := H1
                  clear H1
                  by_cases c57 : t174 = 1
                  · rw [if_pos c57] at H
                    have c57b0 : (t174 == 1) = true := beq_iff_eq.mpr c57
                    have c57b1 : (t174 != 1) = false := bne_eq_false_iff_eq.mpr c57
                    clear c57
                    by_cases c58 : (t170 == 0 && (t171 == 0 && (t172 == 0 && (!t173)))) = true
                    · rw [if_pos c58] at H
                      have c58b0 : (t170 == 0 && (t171 == 0 && (t172 == 0 && (!t173)))) = true := c58
                      (try (have c58b1 : decide (t170 = 0 && (t171 == 0 && (t172 == 0 && (!t173)))) = true := by simpa using c58))
                      (try (have c58b2 : (t170 == 0 && (t171 == 0 && (t172 == 0 && (!t173)))) = true := by simpa using c58))
                      clear c58
                      replace H := Option.bind_eq_some_iff.mp H
                      obtain ⟨t186, A590, H⟩ := H
                      replace H : (some t186) = some r := H
                      have A59 := Aside0.mk A590
                      clear A590
                      obtain rfl := Option.some.inj H
                      have hnb60 := NB175_163.out
                      have hnc60 := NB163_175.out
                      have hnb61 := NB175_169.out
                      have hnc61 := NB169_175.out
                      have hcz62_0 : wc.cell? ⟨gb175, 0, none⟩ = some (.int .i64 t170) := (blk_cell BK175.out 0).trans rfl
                      have hcz62_1 : wc.cell? ⟨gb175, 1, none⟩ = some (.int .i64 t171) := (blk_cell BK175.out 1).trans rfl
                      have hcz62_2 : wc.cell? ⟨gb175, 2, none⟩ = some (.int .i64 t172) := (blk_cell BK175.out 2).trans rfl
                      have hcz62_3 : wc.cell? ⟨gb175, 3, none⟩ = some (.bool t173) := (blk_cell BK175.out 3).trans rfl
                      have hfz62_0 := blk_frozen BK175.out 0
                      have hfz62_1 := blk_frozen BK175.out 1
                      have hfz62_2 := blk_frozen BK175.out 2
                      have hfz62_3 := blk_frozen BK175.out 3
                      go_wp2_with (first | (go_at_call 11; (with_reducible refine (withylaw16_awake.calls kj43  t186 _ A59.out).mono ?_); rintro e w63 ⟨rfl, hb⟩; have n0_ := Aside0.mk (blk_below (g := gb163) (o := .cells #[.int .i64 a2_0, .int .i64 a2_1, .int .i64 a2_2, .bool a2_3] 23 (0, 0)) (by (with_reducible repeat (first | refine blk_drewN ?_ _ | refine blk_drew ?_ | refine blk_alloc ?_ _)); exact BK163.out) hb); have n1_ := Aside0.mk (blk_below (g := gb169) (o := .cells #[.int .i64 t164, .int .i64 t165, .int .i64 t166, .bool t167] 23 (0, 0)) (by (with_reducible repeat (first | refine blk_drewN ?_ _ | refine blk_drew ?_ | refine blk_alloc ?_ _)); exact BK169.out) hb); have n2_ := Aside0.mk (blk_below (g := gb175) (o := .cells #[.int .i64 t170, .int .i64 t171, .int .i64 t172, .bool t173] 23 (0, 0)) (by (with_reducible repeat (first | refine blk_drewN ?_ _ | refine blk_drew ?_ | refine blk_alloc ?_ _)); exact BK175.out) hb); have n3_ := Aside0.mk (below_step (by repeat (first | (with_reducible first | exact HB.out | apply below_alloc | apply pw_below_drewN | apply below_drew1 | refine below_set ?_ GE163.out | refine below_set ?_ GE169.out | refine below_set ?_ GE175.out) | exact HB.out)) hb); clear BK163; clear BK169; clear BK175; clear HB; have BK163 := n0_; have BK169 := n1_; have BK175 := n2_; have HB := n3_; clear n0_ n1_ n2_ n3_; (try clear hb); (try clear hb2); (try clear hk); (try clear hi)))
                      go_ret
                      exact ⟨by first | rfl | (simp [errW_none, errW_some] <;> rfl) | (simp [*, errW_none, errW_some] <;> rfl), by repeat (first | (with_reducible first | exact HB.out | apply below_alloc | apply pw_below_drewN | apply below_drew1 | refine below_set ?_ GE163.out | refine below_set ?_ GE169.out | refine below_set ?_ GE175.out) | exact HB.out)⟩
                    · rw [if_neg c58] at H
                      have c58b0 : (t170 == 0 && (t171 == 0 && (t172 == 0 && (!t173)))) = false := by simpa using c58
                      (try (have c58b1 : decide (t170 = 0 && (t171 == 0 && (t172 == 0 && (!t173)))) = false := by simpa using c58))
                      (try (have c58b2 : (t170 == 0 && (t171 == 0 && (t172 == 0 && (!t173)))) = false := by simpa using c58))
                      (try (have c58b3 : ¬ (t170 = 0 && (t171 == 0 && (t172 == 0 && (!t173)))) := by simpa using c58))
                      clear c58
                      exact absurd ((Option.some.inj H).trans HR_.out) (by simp)
                  · rw [if_neg c57] at H
                    have c57b0 : (t174 == 1) = false := beq_eq_false_iff_ne.mpr c57
                    have c57b1 : (t174 != 1) = true := bne_iff_ne.mpr c57
                    exact absurd ((Option.some.inj H).trans HR_.out) (by simp)
                · replace c56 := Bool.eq_false_iff.mpr c56
                  subst c56
                  have H1 : (if t174 = 0 then ((withyref16_Close.f a2_0 a2_1 a2_2 a2_3 a1).bind fun bt187 => (if (t170 == bt187.1 && (t171 == bt187.2.1 && (t172 == bt187.2.2.1 && (t173 == bt187.2.2.2)))) = true then ((withylaw16_awake.f kj43).bind fun t191 => (some t191)) else (some false))) else (some false)) = some r := by rw [if_neg (show ¬ (false = true) by decide)] at H; exact H
                  clear H
                  have H := H1
                  clear H1
                  by_cases c64 : t174 = 0
                  · rw [if_pos c64] at H
                    have c64b0 : (t174 == 0) = true := beq_iff_eq.mpr c64
                    have c64b1 : (t174 != 0) = false := bne_eq_false_iff_eq.mpr c64
                    clear c64
                    replace H := Option.bind_eq_some_iff.mp H
                    obtain ⟨⟨t187, t188, t189, t190⟩, A650, H⟩ := H
                    replace H : (if (t170 == t187 && (t171 == t188 && (t172 == t189 && (t173 == t190)))) = true then ((withylaw16_awake.f kj43).bind fun t191 => (some t191)) else (some false)) = some r := H
                    have A65 := Aside0.mk A650
                    clear A650
                    by_cases c66 : (t170 == t187 && (t171 == t188 && (t172 == t189 && (t173 == t190)))) = true
                    · rw [if_pos c66] at H
                      have c66b0 : (t170 == t187 && (t171 == t188 && (t172 == t189 && (t173 == t190)))) = true := c66
                      (try (have c66b1 : decide (t170 = t187 && (t171 == t188 && (t172 == t189 && (t173 == t190)))) = true := by simpa using c66))
                      (try (have c66b2 : (t170 == t187 && (t171 == t188 && (t172 == t189 && (t173 == t190)))) = true := by simpa using c66))
                      clear c66
                      replace H := Option.bind_eq_some_iff.mp H
                      obtain ⟨t191, A670, H⟩ := H
                      replace H : (some t191) = some r := H
                      have A67 := Aside0.mk A670
                      clear A670
                      obtain rfl := Option.some.inj H
                      try go_wp2
                      have n0_ := Aside0.mk (blk_drew BK163.out)
                      have n1_ := Aside0.mk (blk_drew BK169.out)
                      have n2_ := Aside0.mk (blk_drew BK175.out)
                      have n3_ := Aside0.mk (below_drew1 HB.out)
                      clear BK163
                      clear BK169
                      clear BK175
                      clear HB
                      have BK163 := n0_
                      have BK169 := n1_
                      have BK175 := n2_
                      have HB := n3_
                      clear n0_ n1_ n2_ n3_
                      refine start_ (n := 13) (S := fun w' => w'.cell? ⟨gb175, 0, none⟩ = some (.int .i64 t170) ∧ w'.cell? ⟨gb175, 1, none⟩ = some (.int .i64 t171) ∧ w'.cell? ⟨gb175, 2, none⟩ = some (.int .i64 t172) ∧ w'.cell? ⟨gb175, 3, none⟩ = some (.bool t173) ∧ w'.cell? ⟨gb163, 0, none⟩ = some (.int .i64 a2_0) ∧ w'.cell? ⟨gb163, 1, none⟩ = some (.int .i64 a2_1) ∧ w'.cell? ⟨gb163, 2, none⟩ = some (.int .i64 a2_2) ∧ w'.cell? ⟨gb163, 3, none⟩ = some (.bool a2_3)) (ds := []) #[false, false, false, false, false, false, false, false, false, false, false, false, false] (by kernel_rfl) rfl rfl ⟨(blk_cell BK175.out 0).trans rfl, (blk_cell BK175.out 1).trans rfl, (blk_cell BK175.out 2).trans rfl, (blk_cell BK175.out 3).trans rfl, (blk_cell BK163.out 0).trans rfl, (blk_cell BK163.out 1).trans rfl, (blk_cell BK163.out 2).trans rfl, (blk_cell BK163.out 3).trans rfl⟩ (fun hHeld => ?_); refine with_tabW withylaw16_HandNew.tab12 withylaw16_HandNew.bits12 (fun HT_ HW_ => ?_)
                      generalize wc.drew = w68 at BK163 BK169 BK175 HB hHeld ⊢
                      refine pure_ (i := 0) (N := some 79) (v := ?_) (a' := ?_) #[true, false, false, false, false, false, false, false, false, false, false, false, false] rfl rfl (any_of HT_.out (by kernel_rfl)) (fun _ _ _ h => h) (Or.inl ⟨by rfl, ?_⟩) ?_ ?_
                      rotate_left
                      · intro w'
                        go_simp
                        with_reducible rfl
                      rotate_left
                      · simp only [Act.put, List.setIfInBounds_toArray, List.set_cons_zero, List.set_cons_succ, i64_w, i32_w]
                        rfl
                      refine pure_ (i := 1) (N := some 80) (v := ?_) (a' := ?_) #[true, true, false, false, false, false, false, false, false, false, false, false, false] rfl rfl (any_of HT_.out (by kernel_rfl)) (fun _ _ _ h => h) (Or.inl ⟨by rfl, ?_⟩) ?_ ?_
                      rotate_left
                      · intro w'
                        go_simp
                        with_reducible rfl
                      rotate_left
                      · simp only [Act.put, List.setIfInBounds_toArray, List.set_cons_zero, List.set_cons_succ, i64_w, i32_w]
                        rfl
                      refine pure_ (i := 2) (N := some 81) (v := ?_) (a' := ?_) #[true, true, true, false, false, false, false, false, false, false, false, false, false] rfl rfl (any_of HT_.out (by kernel_rfl)) (fun _ _ _ h => h) (Or.inl ⟨by rfl, ?_⟩) ?_ ?_
                      rotate_left
                      · intro w'
                        go_simp
                        with_reducible rfl
                      rotate_left
                      · simp only [Act.put, List.setIfInBounds_toArray, List.set_cons_zero, List.set_cons_succ, i64_w, i32_w]
                        rfl
                      refine pure_ (i := 5) (N := some 84) (v := ?_) (a' := ?_) #[true, true, true, false, false, true, false, false, false, false, false, false, false] rfl rfl (any_of HT_.out (by kernel_rfl)) (fun _ _ _ h => h) (Or.inl ⟨by rfl, ?_⟩) ?_ ?_
                      rotate_left
                      · intro w'
                        go_simp
                        with_reducible rfl
                      rotate_left
                      · simp only [Act.put, List.setIfInBounds_toArray, List.set_cons_zero, List.set_cons_succ, i64_w, i32_w]
                        rfl
                      refine take_ (i := 3) (N := some 82) (v := ?_) (a' := ?_) #[true, true, true, true, false, true, false, false, false, false, false, false, false] rfl rfl (take_ofW HT_.out HW_.out (by kernel_rfl)) (fun _ _ _ h => h) (Or.inl ⟨by rfl, ?_⟩) hHeld ?_ ?_
                      rotate_left
                      · rintro w' ⟨s0, s1, s2, s3, s4, s5, s6, s7⟩
                        go_simp
                        with_reducible rfl
                      rotate_left
                      · simp only [Act.put, List.setIfInBounds_toArray, List.set_cons_zero, List.set_cons_succ, i64_w, i32_w]
                        rfl
                      refine take_ (i := 4) (N := some 83) (v := ?_) (a' := ?_) #[true, true, true, true, true, true, false, false, false, false, false, false, false] rfl rfl (take_ofW HT_.out HW_.out (by kernel_rfl)) (fun _ _ _ h => h) (Or.inl ⟨by rfl, ?_⟩) hHeld ?_ ?_
                      rotate_left
                      · rintro w' ⟨s0, s1, s2, s3, s4, s5, s6, s7⟩
                        go_simp
                        with_reducible rfl
                      rotate_left
                      · simp only [Act.put, List.setIfInBounds_toArray, List.set_cons_zero, List.set_cons_succ, i64_w, i32_w]
                        rfl
                      refine one_ (i := 6) (N := some 85) #[true, true, true, true, true, true, true, false, false, false, false, false, false] rfl rfl (one_of HT_.out (by kernel_rfl)) (by decide) (fun K hK => ?_)
                      refine goes_ Try.func19 (by kernel_rfl) rfl #[.agg #[.int .i64 a2_0, .int .i64 a2_1, .int .i64 a2_2, .bool a2_3], .int .i64 a1] (by rfl) rfl rfl (by (try simp only [List.map_toArray, List.map_cons, List.map_nil]); first | done | rfl | (simp only [List.length_drop, List.length_take]; rfl)) ?_
                      with_reducible refine (withyref16_Close.calls a2_0 a2_1 a2_2 a2_3 a1 t187 t188 t189 t190 _ A65.out).mono ?_
                      rintro e w69 ⟨rfl, hb⟩
                      refine ⟨_, rfl, ?_⟩
                      have n0_ := Aside0.mk (blk_below (g := gb163) (o := .cells #[.int .i64 a2_0, .int .i64 a2_1, .int .i64 a2_2, .bool a2_3] 23 (0, 0)) (by (with_reducible repeat (first | refine blk_drewN ?_ _ | refine blk_drew ?_ | refine blk_alloc ?_ _)); exact BK163.out) hb)
                      have n1_ := Aside0.mk (blk_below (g := gb169) (o := .cells #[.int .i64 t164, .int .i64 t165, .int .i64 t166, .bool t167] 23 (0, 0)) (by (with_reducible repeat (first | refine blk_drewN ?_ _ | refine blk_drew ?_ | refine blk_alloc ?_ _)); exact BK169.out) hb)
                      have n2_ := Aside0.mk (blk_below (g := gb175) (o := .cells #[.int .i64 t170, .int .i64 t171, .int .i64 t172, .bool t173] 23 (0, 0)) (by (with_reducible repeat (first | refine blk_drewN ?_ _ | refine blk_drew ?_ | refine blk_alloc ?_ _)); exact BK175.out) hb)
                      have n3_ := Aside0.mk (below_step (by repeat (first | (with_reducible first | exact HB.out | apply below_alloc | apply pw_below_drewN | apply below_drew1 | refine below_set ?_ GE163.out | refine below_set ?_ GE169.out | refine below_set ?_ GE175.out) | exact HB.out)) hb)
                      clear BK163
                      clear BK169
                      clear BK175
                      clear HB
                      have BK163 := n0_
                      have BK169 := n1_
                      have BK175 := n2_
                      have HB := n3_
                      clear n0_ n1_ n2_ n3_
                      (try clear hb)
                      (try clear hb2)
                      (try clear hk)
                      (try clear hi)
                      refine hK.out _ _ ⟨(blk_cell BK175.out 0).trans rfl, (blk_cell BK175.out 1).trans rfl, (blk_cell BK175.out 2).trans rfl, (blk_cell BK175.out 3).trans rfl, (blk_cell BK163.out 0).trans rfl, (blk_cell BK163.out 1).trans rfl, (blk_cell BK163.out 2).trans rfl, (blk_cell BK163.out 3).trans rfl⟩ (fun hHeld => ?_)
                      clear hK K
                      refine norm_ (a' := ?_) ?_ ?_
                      rotate_left
                      · show Act.put _ (some 85) _ = _
                        simp only [Act.put, List.setIfInBounds_toArray, List.set_cons_zero, List.set_cons_succ, i64_w, i32_w]
                        rfl
                      refine pure_ (i := 7) (N := some 86) (v := ?_) (a' := ?_) #[true, true, true, true, true, true, true, true, false, false, false, false, false] rfl rfl (any_of HT_.out (by kernel_rfl)) (fun _ _ _ h => h) (Or.inl ⟨by rfl, ?_⟩) ?_ ?_
                      rotate_left
                      · intro w'
                        go_simp
                        with_reducible rfl
                      rotate_left
                      · simp only [Act.put, List.setIfInBounds_toArray, List.set_cons_zero, List.set_cons_succ, i64_w, i32_w]
                        rfl
                      refine pure_ (i := 8) (N := some 87) (v := ?_) (a' := ?_) #[true, true, true, true, true, true, true, true, true, false, false, false, false] rfl rfl (any_of HT_.out (by kernel_rfl)) (fun _ _ _ h => h) (Or.inl ⟨by rfl, ?_⟩) ?_ ?_
                      rotate_left
                      · intro w'
                        go_simp
                        with_reducible rfl
                      rotate_left
                      · simp only [Act.put, List.setIfInBounds_toArray, List.set_cons_zero, List.set_cons_succ, i64_w, i32_w]
                        rfl
                      refine pure_ (i := 9) (N := some 88) (v := ?_) (a' := ?_) #[true, true, true, true, true, true, true, true, true, true, false, false, false] rfl rfl (any_of HT_.out (by kernel_rfl)) (fun _ _ _ h => h) (Or.inl ⟨by rfl, ?_⟩) ?_ ?_
                      rotate_left
                      · intro w'
                        go_simp
                        with_reducible rfl
                      rotate_left
                      · simp only [Act.put, List.setIfInBounds_toArray, List.set_cons_zero, List.set_cons_succ, i64_w, i32_w]
                        rfl
                      refine one_ (i := 10) (N := some 89) #[true, true, true, true, true, true, true, true, true, true, true, false, false] rfl rfl (one_of HT_.out (by kernel_rfl)) (by decide) (fun K hK => ?_)
                      refine goes_ Try.func11 (by kernel_rfl) rfl #[] (by rfl) rfl rfl (by (try simp only [List.map_toArray, List.map_cons, List.map_nil]); first | done | rfl | (simp only [List.length_drop, List.length_take]; rfl)) ?_
                      with_reducible refine (withylaw16_awake.calls kj43  t191 _ A67.out).mono ?_
                      rintro e w70 ⟨rfl, hb⟩
                      refine ⟨_, rfl, ?_⟩
                      have n0_ := Aside0.mk (blk_below (g := gb163) (o := .cells #[.int .i64 a2_0, .int .i64 a2_1, .int .i64 a2_2, .bool a2_3] 23 (0, 0)) (by (with_reducible repeat (first | refine blk_drewN ?_ _ | refine blk_drew ?_ | refine blk_alloc ?_ _)); exact BK163.out) hb)
                      have n1_ := Aside0.mk (blk_below (g := gb169) (o := .cells #[.int .i64 t164, .int .i64 t165, .int .i64 t166, .bool t167] 23 (0, 0)) (by (with_reducible repeat (first | refine blk_drewN ?_ _ | refine blk_drew ?_ | refine blk_alloc ?_ _)); exact BK169.out) hb)
                      have n2_ := Aside0.mk (blk_below (g := gb175) (o := .cells #[.int .i64 t170, .int .i64 t171, .int .i64 t172, .bool t173] 23 (0, 0)) (by (with_reducible repeat (first | refine blk_drewN ?_ _ | refine blk_drew ?_ | refine blk_alloc ?_ _)); exact BK175.out) hb)
                      have n3_ := Aside0.mk (below_step (by repeat (first | (with_reducible first | exact HB.out | apply below_alloc | apply pw_below_drewN | apply below_drew1 | refine below_set ?_ GE163.out | refine below_set ?_ GE169.out | refine below_set ?_ GE175.out) | exact HB.out)) hb)
                      clear BK163
                      clear BK169
                      clear BK175
                      clear HB
                      have BK163 := n0_
                      have BK169 := n1_
                      have BK175 := n2_
                      have HB := n3_
                      clear n0_ n1_ n2_ n3_
                      (try clear hb)
                      (try clear hb2)
                      (try clear hk)
                      (try clear hi)
                      refine hK.out _ _ ⟨(blk_cell BK175.out 0).trans rfl, (blk_cell BK175.out 1).trans rfl, (blk_cell BK175.out 2).trans rfl, (blk_cell BK175.out 3).trans rfl, (blk_cell BK163.out 0).trans rfl, (blk_cell BK163.out 1).trans rfl, (blk_cell BK163.out 2).trans rfl, (blk_cell BK163.out 3).trans rfl⟩ (fun hHeld => ?_)
                      clear hK K
                      refine norm_ (a' := ?_) ?_ ?_
                      rotate_left
                      · show Act.put _ (some 89) _ = _
                        simp only [Act.put, List.setIfInBounds_toArray, List.set_cons_zero, List.set_cons_succ, i64_w, i32_w]
                        rfl
                      refine pure_ (i := 11) (N := some 90) (v := ?_) (a' := ?_) #[true, true, true, true, true, true, true, true, true, true, true, true, false] rfl rfl (any_of HT_.out (by kernel_rfl)) (fun _ _ _ h => h) (Or.inl ⟨by rfl, ?_⟩) ?_ ?_
                      rotate_left
                      · intro w'
                        go_simp
                        with_reducible rfl
                      rotate_left
                      · simp only [Act.put, List.setIfInBounds_toArray, List.set_cons_zero, List.set_cons_succ, i64_w, i32_w]
                        rfl
                      refine pure_ (i := 12) (N := some 6) (v := ?_) (a' := ?_) #[true, true, true, true, true, true, true, true, true, true, true, true, true] rfl rfl (any_of HT_.out (by kernel_rfl)) (fun _ _ _ h => h) (Or.inl ⟨by rfl, ?_⟩) ?_ ?_
                      rotate_left
                      · intro w'
                        go_simp
                        with_reducible rfl
                      rotate_left
                      · simp only [Act.put, List.setIfInBounds_toArray, List.set_cons_zero, List.set_cons_succ, i64_w, i32_w]
                        rfl
                      refine done_ (done_of HT_.out (by kernel_rfl)) ?_
                      try go_wp2
                      go_ret
                      exact ⟨by first | rfl | (simp [errW_none, errW_some] <;> rfl) | (simp [*, errW_none, errW_some] <;> rfl), by repeat (first | (with_reducible first | exact HB.out | apply below_alloc | apply pw_below_drewN | apply below_drew1 | refine below_set ?_ GE163.out | refine below_set ?_ GE169.out | refine below_set ?_ GE175.out) | exact HB.out)⟩
                    · rw [if_neg c66] at H
                      have c66b0 : (t170 == t187 && (t171 == t188 && (t172 == t189 && (t173 == t190)))) = false := by simpa using c66
                      (try (have c66b1 : decide (t170 = t187 && (t171 == t188 && (t172 == t189 && (t173 == t190)))) = false := by simpa using c66))
                      (try (have c66b2 : (t170 == t187 && (t171 == t188 && (t172 == t189 && (t173 == t190)))) = false := by simpa using c66))
                      (try (have c66b3 : ¬ (t170 = t187 && (t171 == t188 && (t172 == t189 && (t173 == t190)))) := by simpa using c66))
                      clear c66
                      exact absurd ((Option.some.inj H).trans HR_.out) (by simp)
                  · rw [if_neg c64] at H
                    have c64b0 : (t174 == 0) = false := beq_eq_false_iff_ne.mpr c64
                    have c64b1 : (t174 != 0) = true := bne_iff_ne.mpr c64
                    exact absurd ((Option.some.inj H).trans HR_.out) (by simp)
def withylaw16_HandNew.Pure : Prop := ∀ (a0 : Int) (a1 : Int) (a2_0 : Int) (a2_1 : Int) (a2_2 : Int) (a2_3 : Bool), (Lit.int .i64 a0).wf = true → (Lit.int .i64 a1).wf = true → (Lit.int .i64 a2_0).wf = true → (Lit.int .i64 a2_1).wf = true → (Lit.int .i64 a2_2).wf = true → ∃ k, withylaw16_HandNew.f k a0 a1 a2_0 a2_1 a2_2 a2_3 = some true

end Go.Proofs.Ytdjbpnpfgabdjaa.PHandNew
