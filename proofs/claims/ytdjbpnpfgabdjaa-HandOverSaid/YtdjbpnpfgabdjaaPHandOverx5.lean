-- written by a widened copy of the print, a program of this session; Lean checks it.
import Derived.Test.YtdjbpnpfgabdjaaPHandOverx0
import Derived.Test.YtdjbpnpfgabdjaaPHandOverx2
import Derived.Test.YtdjbpnpfgabdjaaPHandOverx3
import Derived.Test.YtdjbpnpfgabdjaaPHandOverx4
namespace Go.Proofs.Ytdjbpnpfgabdjaa.PHandOver
open Go.RowKit Go.Proofs.YtdjbpnpfgabdjaaW.PrintWords Go.Proofs.YtdjbpnpfgabdjaaW.PrintLast Go.Proofs.YtdjbpnpfgabdjaaW.PrintMore
attribute [local go_sem] max2_int min2_int max_two min_two max_three min_three max_four min_four   -- for this text's walks alone
set_option linter.unusedVariables false
set_option linter.unusedSimpArgs false

/-! ### withylaw16_HandOver: function 5 -/
mutual
def withylaw16_HandOver.l0 : Nat → List Bool → Int → Int → Int → Int → Int → Int → Int → Bool → Option (Bool)
  | 0, _, _, _, _, _, _, _, _, _ => none
  | k + 1, x1, x5, x7, x8, x9, x161000, x161001, x161002, x161003 => if x9 < (x1.length : Int) then (if x9 < 60 then (withylaw16_HandOver.j1 k x1 x5 x7 x8 x9 (x7 == 0) x161000 x161001 x161002 x161003) else (withylaw16_HandOver.j1 k x1 x5 x7 x8 x9 false x161000 x161001 x161002 x161003)) else (withylaw16_HandOver.j1 k x1 x5 x7 x8 x9 false x161000 x161001 x161002 x161003)
def withylaw16_HandOver.j1 : Nat → List Bool → Int → Int → Int → Int → Bool → Int → Int → Int → Bool → Option (Bool)
  | 0, _, _, _, _, _, _, _, _, _, _ => none
  | k + 1, x1, x5, x7, x8, x9, x32, x161000, x161001, x161002, x161003 => if x32 = true then (if 0 ≤ x9 then (if x9 < (x1.length : Int) then (if rdOf false x1 x9 = true then ((hand_Welcome.f x161000 x161001 x161002 x161003 x161002).bind fun bt164 => (if bt164.2.2.2.2.1 = true then (withylaw16_HandOver.j2 k x1 x5 bt164.2.2.2.2.2 (wrap64 (x8 + 1)) x9 bt164.2.2.2.2.1 bt164.1 bt164.2.1 bt164.2.2.1 bt164.2.2.2.1 x161000 x161001 x161002 x161003) else (withylaw16_HandOver.j2 k x1 x5 bt164.2.2.2.2.2 x8 x9 bt164.2.2.2.2.1 bt164.1 bt164.2.1 bt164.2.2.1 bt164.2.2.2.1 x161000 x161001 x161002 x161003))) else ((hand_Close.f k x161000 x161001 x161002 x161003 x5).bind fun bt170 => (if (bt170.2.2.2.1 != (x8 == x5)) = true then (if bt170.2.1 = 0 then (some false) else (withylaw16_HandOver.l0 k x1 x5 bt170.2.2.2.2 x8 (wrap64 (x9 + 1)) bt170.1 bt170.2.1 bt170.2.2.1 bt170.2.2.2.1)) else (withylaw16_HandOver.l0 k x1 x5 bt170.2.2.2.2 x8 (wrap64 (x9 + 1)) bt170.1 bt170.2.1 bt170.2.2.1 bt170.2.2.2.1)))) else (none)) else (none)) else (if x7 = 0 then (if x8 ≤ x5 then ((withylaw16_awake.f k).bind fun t161 => (some t161)) else (some false)) else (some false))
def withylaw16_HandOver.j2 : Nat → List Bool → Int → Int → Int → Int → Bool → Int → Int → Int → Bool → Int → Int → Int → Bool → Option (Bool)
  | 0, _, _, _, _, _, _, _, _, _, _, _, _, _, _ => none
  | k + 1, x1, x5, x7, x8, x9, x11, x161000, x161001, x161002, x161003, x164000, x164001, x164002, x164003 => if (x11 != (decide (x164002 > 0))) = true then (withylaw16_HandOver.j3 k x1 x5 x7 x8 x9 true x161000 x161001 x161002 x161003) else (if x11 = true then (withylaw16_HandOver.j3 k x1 x5 x7 x8 x9 (x161001 != x8) x161000 x161001 x161002 x161003) else (withylaw16_HandOver.j3 k x1 x5 x7 x8 x9 false x161000 x161001 x161002 x161003))
def withylaw16_HandOver.j3 : Nat → List Bool → Int → Int → Int → Int → Bool → Int → Int → Int → Bool → Option (Bool)
  | 0, _, _, _, _, _, _, _, _, _, _ => none
  | k + 1, x1, x5, x7, x8, x9, x64, x161000, x161001, x161002, x161003 => if x64 = true then (some false) else (withylaw16_HandOver.l0 k x1 x5 x7 x8 (wrap64 (x9 + 1)) x161000 x161001 x161002 x161003)
end
def withylaw16_HandOver.f (k : Nat) (a0 : Int) (l1 : List Bool) : Option (Bool) := (hand_New.f k 0 (wrap64 (1 + (wrap64 (Int.tmod a0 9))))).bind fun bt155 => (withylaw16_HandOver.l0 k l1 (wrap64 (1 + (wrap64 (Int.tmod a0 9)))) bt155.2.2.2.2 0 0 bt155.1 bt155.2.1 bt155.2.2.1 bt155.2.2.2.1)
theorem withylaw16_HandOver.mono_l : ∀ k, (∀ y0 y1 y2 y3 y4 y5 y6 y7 y8, LeO (withylaw16_HandOver.l0 k y0 y1 y2 y3 y4 y5 y6 y7 y8) (withylaw16_HandOver.l0 (k + 1) y0 y1 y2 y3 y4 y5 y6 y7 y8)) ∧ (∀ y0 y1 y2 y3 y4 y5 y6 y7 y8 y9, LeO (withylaw16_HandOver.j1 k y0 y1 y2 y3 y4 y5 y6 y7 y8 y9) (withylaw16_HandOver.j1 (k + 1) y0 y1 y2 y3 y4 y5 y6 y7 y8 y9)) ∧ (∀ y0 y1 y2 y3 y4 y5 y6 y7 y8 y9 y10 y11 y12 y13, LeO (withylaw16_HandOver.j2 k y0 y1 y2 y3 y4 y5 y6 y7 y8 y9 y10 y11 y12 y13) (withylaw16_HandOver.j2 (k + 1) y0 y1 y2 y3 y4 y5 y6 y7 y8 y9 y10 y11 y12 y13)) ∧ (∀ y0 y1 y2 y3 y4 y5 y6 y7 y8 y9, LeO (withylaw16_HandOver.j3 k y0 y1 y2 y3 y4 y5 y6 y7 y8 y9) (withylaw16_HandOver.j3 (k + 1) y0 y1 y2 y3 y4 y5 y6 y7 y8 y9))
  | 0 => ⟨fun _ _ _ _ _ _ _ _ _ r h => by simp [withylaw16_HandOver.l0] at h, fun _ _ _ _ _ _ _ _ _ _ r h => by simp [withylaw16_HandOver.j1] at h, fun _ _ _ _ _ _ _ _ _ _ _ _ _ _ r h => by simp [withylaw16_HandOver.j2] at h, fun _ _ _ _ _ _ _ _ _ _ r h => by simp [withylaw16_HandOver.j3] at h⟩
  | k + 1 => by
    obtain ⟨ih0, ih1, ih2, ih3⟩ := withylaw16_HandOver.mono_l k
    refine ⟨?_, ?_, ?_, ?_⟩
    · intro y0 y1 y2 y3 y4 y5 y6 y7 y8
      unfold withylaw16_HandOver.l0
      repeat' first
      | (with_reducible exact ih0 _ _ _ _ _ _ _ _ _)
      | (with_reducible exact ih1 _ _ _ _ _ _ _ _ _ _)
      | (with_reducible exact ih2 _ _ _ _ _ _ _ _ _ _ _ _ _ _)
      | (with_reducible exact ih3 _ _ _ _ _ _ _ _ _ _)
      | (with_reducible exact hand_Close.mono _ _ _ _ _ _)
      | (with_reducible exact hand_New.mono _ _ _)
      | (with_reducible exact withylaw16_awake.mono _)
      | (with_reducible exact LeO.refl _)
      | (with_reducible exact LeO.none _)
      | (with_reducible refine LeO.ite ?_ ?_)
      | (with_reducible refine LeO.bind ?_ (fun _ => ?_))
      | exact ih0 _ _ _ _ _ _ _ _ _
      | exact ih1 _ _ _ _ _ _ _ _ _ _
      | exact ih2 _ _ _ _ _ _ _ _ _ _ _ _ _ _
      | exact ih3 _ _ _ _ _ _ _ _ _ _
      | exact hand_Close.mono _ _ _ _ _ _
      | exact hand_New.mono _ _ _
      | exact withylaw16_awake.mono _
      | exact LeO.none _
      | refine LeO.ite ?_ ?_
      | refine LeO.bind ?_ (fun _ => ?_)
    · intro y0 y1 y2 y3 y4 y5 y6 y7 y8 y9
      unfold withylaw16_HandOver.j1
      repeat' first
      | (with_reducible exact ih0 _ _ _ _ _ _ _ _ _)
      | (with_reducible exact ih1 _ _ _ _ _ _ _ _ _ _)
      | (with_reducible exact ih2 _ _ _ _ _ _ _ _ _ _ _ _ _ _)
      | (with_reducible exact ih3 _ _ _ _ _ _ _ _ _ _)
      | (with_reducible exact hand_Close.mono _ _ _ _ _ _)
      | (with_reducible exact hand_New.mono _ _ _)
      | (with_reducible exact withylaw16_awake.mono _)
      | (with_reducible exact LeO.refl _)
      | (with_reducible exact LeO.none _)
      | (with_reducible refine LeO.ite ?_ ?_)
      | (with_reducible refine LeO.bind ?_ (fun _ => ?_))
      | exact ih0 _ _ _ _ _ _ _ _ _
      | exact ih1 _ _ _ _ _ _ _ _ _ _
      | exact ih2 _ _ _ _ _ _ _ _ _ _ _ _ _ _
      | exact ih3 _ _ _ _ _ _ _ _ _ _
      | exact hand_Close.mono _ _ _ _ _ _
      | exact hand_New.mono _ _ _
      | exact withylaw16_awake.mono _
      | exact LeO.none _
      | refine LeO.ite ?_ ?_
      | refine LeO.bind ?_ (fun _ => ?_)
    · intro y0 y1 y2 y3 y4 y5 y6 y7 y8 y9 y10 y11 y12 y13
      unfold withylaw16_HandOver.j2
      repeat' first
      | (with_reducible exact ih0 _ _ _ _ _ _ _ _ _)
      | (with_reducible exact ih1 _ _ _ _ _ _ _ _ _ _)
      | (with_reducible exact ih2 _ _ _ _ _ _ _ _ _ _ _ _ _ _)
      | (with_reducible exact ih3 _ _ _ _ _ _ _ _ _ _)
      | (with_reducible exact hand_Close.mono _ _ _ _ _ _)
      | (with_reducible exact hand_New.mono _ _ _)
      | (with_reducible exact withylaw16_awake.mono _)
      | (with_reducible exact LeO.refl _)
      | (with_reducible exact LeO.none _)
      | (with_reducible refine LeO.ite ?_ ?_)
      | (with_reducible refine LeO.bind ?_ (fun _ => ?_))
      | exact ih0 _ _ _ _ _ _ _ _ _
      | exact ih1 _ _ _ _ _ _ _ _ _ _
      | exact ih2 _ _ _ _ _ _ _ _ _ _ _ _ _ _
      | exact ih3 _ _ _ _ _ _ _ _ _ _
      | exact hand_Close.mono _ _ _ _ _ _
      | exact hand_New.mono _ _ _
      | exact withylaw16_awake.mono _
      | exact LeO.none _
      | refine LeO.ite ?_ ?_
      | refine LeO.bind ?_ (fun _ => ?_)
    · intro y0 y1 y2 y3 y4 y5 y6 y7 y8 y9
      unfold withylaw16_HandOver.j3
      repeat' first
      | (with_reducible exact ih0 _ _ _ _ _ _ _ _ _)
      | (with_reducible exact ih1 _ _ _ _ _ _ _ _ _ _)
      | (with_reducible exact ih2 _ _ _ _ _ _ _ _ _ _ _ _ _ _)
      | (with_reducible exact ih3 _ _ _ _ _ _ _ _ _ _)
      | (with_reducible exact hand_Close.mono _ _ _ _ _ _)
      | (with_reducible exact hand_New.mono _ _ _)
      | (with_reducible exact withylaw16_awake.mono _)
      | (with_reducible exact LeO.refl _)
      | (with_reducible exact LeO.none _)
      | (with_reducible refine LeO.ite ?_ ?_)
      | (with_reducible refine LeO.bind ?_ (fun _ => ?_))
      | exact ih0 _ _ _ _ _ _ _ _ _
      | exact ih1 _ _ _ _ _ _ _ _ _ _
      | exact ih2 _ _ _ _ _ _ _ _ _ _ _ _ _ _
      | exact ih3 _ _ _ _ _ _ _ _ _ _
      | exact hand_Close.mono _ _ _ _ _ _
      | exact hand_New.mono _ _ _
      | exact withylaw16_awake.mono _
      | exact LeO.none _
      | refine LeO.ite ?_ ?_
      | refine LeO.bind ?_ (fun _ => ?_)
theorem withylaw16_HandOver.mono : ∀ a0 a1 k, LeO (withylaw16_HandOver.f k a0 a1) (withylaw16_HandOver.f (k + 1) a0 a1) := by
  intro a0 a1 k
  obtain ⟨ih0, ih1, ih2, ih3⟩ := withylaw16_HandOver.mono_l k
  unfold withylaw16_HandOver.f
  repeat' first
      | (with_reducible exact ih0 _ _ _ _ _ _ _ _ _)
      | (with_reducible exact ih1 _ _ _ _ _ _ _ _ _ _)
      | (with_reducible exact ih2 _ _ _ _ _ _ _ _ _ _ _ _ _ _)
      | (with_reducible exact ih3 _ _ _ _ _ _ _ _ _ _)
      | (with_reducible exact hand_Close.mono _ _ _ _ _ _)
      | (with_reducible exact hand_New.mono _ _ _)
      | (with_reducible exact withylaw16_awake.mono _)
      | (with_reducible exact LeO.refl _)
      | (with_reducible exact LeO.none _)
      | (with_reducible refine LeO.ite ?_ ?_)
      | (with_reducible refine LeO.bind ?_ (fun _ => ?_))
      | exact ih0 _ _ _ _ _ _ _ _ _
      | exact ih1 _ _ _ _ _ _ _ _ _ _
      | exact ih2 _ _ _ _ _ _ _ _ _ _ _ _ _ _
      | exact ih3 _ _ _ _ _ _ _ _ _ _
      | exact hand_Close.mono _ _ _ _ _ _
      | exact hand_New.mono _ _ _
      | exact withylaw16_awake.mono _
      | exact LeO.none _
      | refine LeO.ite ?_ ?_
      | refine LeO.bind ?_ (fun _ => ?_)
set_option maxHeartbeats 8000000 in
set_option maxRecDepth 100000 in
theorem withylaw16_HandOver.calls (k : Nat) (a0 : Int) (A1 : Option Addr) (c1 : Nat) (l1 : List Bool) (r : Bool) (w : World) (hr1 : Kd.C Kd.bool w A1 l1.length l1) (hc1 : l1.length ≤ c1) (h : withylaw16_HandOver.f k a0 l1 = some r) (hr_ : r = true) :
    Calls Try.prog 5 #[.int .u8 a0, .slice A1 l1.length c1] w fun e w' => e = .returned (.bool r) ∧ Below w.heap.size w w' := by
  have hu23 := Try.underlying23
  have HR1 := Aside0.mk hr1
  have HC1 := Aside0.mk hc1
  clear hr1 hc1
  have HB := Aside0.mk (Below.refl w.heap.size w)
  have H : ((hand_New.f k 0 (wrap64 (1 + (wrap64 (Int.tmod a0 9))))).bind fun bt155 => (withylaw16_HandOver.l0 k l1 (wrap64 (1 + (wrap64 (Int.tmod a0 9)))) bt155.2.2.2.2 0 0 bt155.1 bt155.2.1 bt155.2.2.1 bt155.2.2.2.1)) = some r := h
  clear h
  have HR_ := Aside0.mk hr_
  clear hr_
  replace H := Option.bind_eq_some_iff.mp H
  obtain ⟨⟨t155, t156, t157, t158, t159⟩, A30, H⟩ := H
  replace H : (withylaw16_HandOver.l0 k l1 (wrap64 (1 + (wrap64 (Int.tmod a0 9)))) t159 0 0 t155 t156 t157 t158) = some r := H
  have A3 := Aside0.mk A30
  clear A30
  have H' := Aside0.mk H
  clear H
  go_enter Try.func5, Try.ntmps5
  go_wp2_with (first | ((with_reducible refine gate_callee (f := 15) rfl ?_); refine goesL_ (some 18) rfl rfl Try.func15 (by kernel_rfl) rfl #[.int .i64 0, .int .i64 (wrap64 (1 + (wrap64 (Int.tmod a0 9))))] rfl (by (try simp only [List.map_toArray, List.map_cons, List.map_nil]); first | done | rfl | (simp only [List.length_drop, List.length_take]; rfl)) ?_; (with_reducible refine (hand_New.calls k 0 (wrap64 (1 + (wrap64 (Int.tmod a0 9)))) t155 t156 t157 t158 t159 _ A3.out).mono ?_); rintro e w4 ⟨rfl, hb⟩; refine ⟨_, rfl, ?_⟩; have n0_ := Aside0.mk (below_step (by repeat (first | (with_reducible first | exact HB.out | apply below_alloc | apply pw_below_drewN | apply below_drew1) | exact HB.out)) hb); clear HB; have HB := n0_; clear n0_; (try clear hb); (try clear hb2); (try clear hk); (try clear hi)) | ((with_reducible refine gate_dst (N := 6) rfl ?_); refine box_event ?hg (N := 6) ?hd (cs := #[.int .i64 0, .int .i64 0, .int .i64 0, .bool false]) (t := 23) ?hr ?_; (case hd => rfl); (case hg => rfl); (case hr => first | (go_simp; done) | (go_simp; rfl)); intro gb160 hg w5 hbox hb; have n0_ := Aside0.mk (below_step (by repeat (first | (with_reducible first | exact HB.out | apply below_alloc | apply pw_below_drewN | apply below_drew1) | exact HB.out)) hb); have n1_ := Aside0.mk (hbox); have n2_ := Aside0.mk ((by rw [hg]; exact (below_size (by repeat (first | (with_reducible first | exact HB.out | apply below_alloc | apply pw_below_drewN | apply below_drew1) | exact HB.out))) : w.heap.size ≤ gb160)); have n3_ := Aside0.mk ((by rw [hg]; exact (below_size (by repeat (first | (with_reducible first | exact HB.out | apply below_alloc | apply pw_below_drewN | apply below_drew1) | exact HB.out))) : w.heap.size ≤ gb160)); clear HB; have HB := n0_; have BK160 := n1_; have GW160 := n2_; have GE160 := n3_; clear n0_ n1_ n2_ n3_; clear hb hbox hg; have hcz6_0 : w5.cell? ⟨gb160, 0, none⟩ = some (.int .i64 0) := (blk_cell BK160.out 0).trans rfl; have hcz6_1 : w5.cell? ⟨gb160, 1, none⟩ = some (.int .i64 0) := (blk_cell BK160.out 1).trans rfl; have hcz6_2 : w5.cell? ⟨gb160, 2, none⟩ = some (.int .i64 0) := (blk_cell BK160.out 2).trans rfl; have hcz6_3 : w5.cell? ⟨gb160, 3, none⟩ = some (.bool false) := (blk_cell BK160.out 3).trans rfl; have hfz6_0 := blk_frozen BK160.out 0; have hfz6_1 := blk_frozen BK160.out 1; have hfz6_2 := blk_frozen BK160.out 2; have hfz6_3 := blk_frozen BK160.out 3))
  go_loopg [7, 8, 9] k (fun kq v7 v8 v9 w' => ∃ (x7_1 : Int) (x8_1 : Int) (x9_1 : Int) (x161000_1 : Int) (x161001_1 : Int) (x161002_1 : Int) (x161003_1 : Bool), v7 = .int .i64 x7_1 ∧ v8 = .int .i64 x8_1 ∧ v9 = .int .i64 x9_1 ∧ Aside0 (withylaw16_HandOver.l0 kq l1 (wrap64 (1 + (wrap64 (Int.tmod a0 9)))) x7_1 x8_1 x9_1 x161000_1 x161001_1 x161002_1 x161003_1 = some r) ∧ Aside0 (kq ≤ k) ∧ Aside0 (w'.heap[gb160]? = some (.cells #[.int .i64 x161000_1, .int .i64 x161001_1, .int .i64 x161002_1, .bool x161003_1] 23 (0, 0))) ∧ Aside0 (Below w.heap.size w w'))
  case atStart => exact ⟨(t159), (0), (0), (t155), (t156), (t157), (t158), (by first | rfl | (simp; done) | (simp [*]; done) | (congr 1; omega) | (simp; omega)), (by first | rfl | (simp; done) | (simp [*]; done) | (congr 1; omega) | (simp; omega)), (by first | rfl | (simp; done) | (simp [*]; done) | (congr 1; omega) | (simp; omega)), H', ⟨Nat.le_refl _⟩, ⟨by (with_reducible repeat (first | refine blk_drewN ?_ _ | refine blk_drew ?_ | refine blk_alloc ?_ _)); refine blk_put (cs := #[.int .i64 t155, .int .i64 t156, .int .i64 t157, .bool false]) ?_ 3 _ rfl; (with_reducible repeat (first | refine blk_drewN ?_ _ | refine blk_drew ?_ | refine blk_alloc ?_ _)); refine blk_put (cs := #[.int .i64 t155, .int .i64 t156, .int .i64 0, .bool false]) ?_ 2 _ rfl; (with_reducible repeat (first | refine blk_drewN ?_ _ | refine blk_drew ?_ | refine blk_alloc ?_ _)); refine blk_put (cs := #[.int .i64 t155, .int .i64 0, .int .i64 0, .bool false]) ?_ 1 _ rfl; (with_reducible repeat (first | refine blk_drewN ?_ _ | refine blk_drew ?_ | refine blk_alloc ?_ _)); refine blk_put (cs := #[.int .i64 0, .int .i64 0, .int .i64 0, .bool false]) ?_ 0 _ rfl; (with_reducible repeat (first | refine blk_drewN ?_ _ | refine blk_drew ?_ | refine blk_alloc ?_ _)); exact BK160.out⟩, ⟨by repeat (first | (with_reducible first | exact HB.out | apply below_alloc | apply pw_below_drewN | apply below_drew1 | refine below_set ?_ GE160.out) | exact HB.out)⟩⟩
  case round =>
    clear H'
    try clear c1
    try clear p2
    try clear c5
    try clear p6
    try clear hcz6_0
    try clear hcz6_1
    try clear hcz6_2
    try clear hcz6_3
    try clear hfz6_0
    try clear hfz6_1
    try clear hfz6_2
    try clear hfz6_3
    obtain ⟨x7_1, x8_1, x9_1, x161000_1, x161001_1, x161002_1, x161003_1, rfl, rfl, rfl, HA, HK1, BK160, HB⟩ := hrel
    cases gk with
    | zero => exact absurd HA.out (by simp [withylaw16_HandOver.l0])
    | succ k1 =>
      have H := HA.out
      clear HA
      simp only [withylaw16_HandOver.l0] at H
      have HC7 := Aside0.mk H
      clear H
      go_upto_region 5 with (fail)
      go_cut [32] (fun v32 wc => ∃ (kq : Nat) (x32_6 : Bool), v32 = .bool x32_6 ∧ Aside0 (withylaw16_HandOver.j1 kq l1 (wrap64 (1 + (wrap64 (Int.tmod a0 9)))) x7_1 x8_1 x9_1 x32_6 x161000_1 x161001_1 x161002_1 x161003_1 = some r) ∧ Aside0 (kq ≤ k1) ∧ Aside0 (wc.heap[gb160]? = some (.cells #[.int .i64 x161000_1, .int .i64 x161001_1, .int .i64 x161002_1, .bool x161003_1] 23 (0, 0))) ∧ Aside0 (Below w.heap.size w wc))
      case first =>
        have H := HC7.out
        clear HC7
        by_cases c8 : x9_1 < (l1.length : Int)
        · rw [if_pos c8] at H
          have c8b0 : decide (x9_1 < (l1.length : Int)) = true := decide_eq_true c8
          clear c8
          (first | rw [c8b0] | (simp only [i64_w, i32_w]; rw [c8b0]) | skip)
          by_cases c9 : x9_1 < 60
          · rw [if_pos c9] at H
            have c9b0 : decide (x9_1 < 60) = true := decide_eq_true c9
            clear c9
            have H' := Aside0.mk H
            clear H
            go_wp2
            go_meet
            case rel => exact ⟨_, ((x7_1 == 0)), (by first | rfl | (simp; done) | (simp [*]; done) | (congr 1; omega) | (simp; omega)), H', ⟨by have := HK1.out; first | omega | exact Nat.le_refl _⟩, ⟨by (with_reducible repeat (first | refine blk_drewN ?_ _ | refine blk_drew ?_ | refine blk_alloc ?_ _)); exact BK160.out⟩, ⟨by repeat (first | (with_reducible first | exact HB.out | apply below_alloc | apply pw_below_drewN | apply below_drew1 | refine below_set ?_ GE160.out) | exact HB.out)⟩⟩
          · rw [if_neg c9] at H
            have c9b0 : decide (x9_1 < 60) = false := decide_eq_false c9
            clear c9
            have H' := Aside0.mk H
            clear H
            go_wp2
            go_meet
            case rel => exact ⟨_, (false), (by first | rfl | (simp; done) | (simp [*]; done) | (congr 1; omega) | (simp; omega)), H', ⟨by have := HK1.out; first | omega | exact Nat.le_refl _⟩, ⟨by (with_reducible repeat (first | refine blk_drewN ?_ _ | refine blk_drew ?_ | refine blk_alloc ?_ _)); exact BK160.out⟩, ⟨by repeat (first | (with_reducible first | exact HB.out | apply below_alloc | apply pw_below_drewN | apply below_drew1 | refine below_set ?_ GE160.out) | exact HB.out)⟩⟩
        · rw [if_neg c8] at H
          have c8b0 : decide (x9_1 < (l1.length : Int)) = false := decide_eq_false c8
          clear c8
          (first | rw [c8b0] | (simp only [i64_w, i32_w]; rw [c8b0]) | skip)
          have H' := Aside0.mk H
          clear H
          go_wp2
          go_meet
          case rel => exact ⟨_, (false), (by first | rfl | (simp; done) | (simp [*]; done) | (congr 1; omega) | (simp; omega)), H', ⟨by have := HK1.out; first | omega | exact Nat.le_refl _⟩, ⟨by (with_reducible repeat (first | refine blk_drewN ?_ _ | refine blk_drew ?_ | refine blk_alloc ?_ _)); exact BK160.out⟩, ⟨by repeat (first | (with_reducible first | exact HB.out | apply below_alloc | apply pw_below_drewN | apply below_drew1 | refine below_set ?_ GE160.out) | exact HB.out)⟩⟩
      case rest =>
        clear HC7
        try clear c1
        try clear p2
        try clear c5
        try clear p6
        try clear c8
        try clear c8b0
        try clear c9
        try clear c9b0
        try clear hcz6_0
        try clear hcz6_1
        try clear hcz6_2
        try clear hcz6_3
        try clear hfz6_0
        try clear hfz6_1
        try clear hfz6_2
        try clear hfz6_3
        try clear p2
        try clear p6
        obtain ⟨kq, x32_6, rfl, HA, HJ6, BK160, HB⟩ := hcut
        cases kq with
        | zero => exact absurd HA.out (by simp [withylaw16_HandOver.j1])
        | succ kj6 =>
          have H := HA.out
          clear HA
          simp only [withylaw16_HandOver.j1] at H
          by_cases c10 : x32_6 = true
          · subst c10
            have H1 : (if 0 ≤ x9_1 then (if x9_1 < (l1.length : Int) then (if rdOf false l1 x9_1 = true then ((hand_Welcome.f x161000_1 x161001_1 x161002_1 x161003_1 x161002_1).bind fun bt164 => (if bt164.2.2.2.2.1 = true then (withylaw16_HandOver.j2 kj6 l1 (wrap64 (1 + (wrap64 (Int.tmod a0 9)))) bt164.2.2.2.2.2 (wrap64 (x8_1 + 1)) x9_1 bt164.2.2.2.2.1 bt164.1 bt164.2.1 bt164.2.2.1 bt164.2.2.2.1 x161000_1 x161001_1 x161002_1 x161003_1) else (withylaw16_HandOver.j2 kj6 l1 (wrap64 (1 + (wrap64 (Int.tmod a0 9)))) bt164.2.2.2.2.2 x8_1 x9_1 bt164.2.2.2.2.1 bt164.1 bt164.2.1 bt164.2.2.1 bt164.2.2.2.1 x161000_1 x161001_1 x161002_1 x161003_1))) else ((hand_Close.f kj6 x161000_1 x161001_1 x161002_1 x161003_1 (wrap64 (1 + (wrap64 (Int.tmod a0 9))))).bind fun bt170 => (if (bt170.2.2.2.1 != (x8_1 == (wrap64 (1 + (wrap64 (Int.tmod a0 9)))))) = true then (if bt170.2.1 = 0 then (some false) else (withylaw16_HandOver.l0 kj6 l1 (wrap64 (1 + (wrap64 (Int.tmod a0 9)))) bt170.2.2.2.2 x8_1 (wrap64 (x9_1 + 1)) bt170.1 bt170.2.1 bt170.2.2.1 bt170.2.2.2.1)) else (withylaw16_HandOver.l0 kj6 l1 (wrap64 (1 + (wrap64 (Int.tmod a0 9)))) bt170.2.2.2.2 x8_1 (wrap64 (x9_1 + 1)) bt170.1 bt170.2.1 bt170.2.2.1 bt170.2.2.2.1)))) else (none)) else (none)) = some r := by rw [if_pos rfl] at H; exact H
            clear H
            have H := H1
            clear H1
            by_cases c11 : 0 ≤ x9_1
            · rw [if_pos c11] at H
              have c11b0 : decide (0 ≤ x9_1) = true := decide_eq_true c11
              clear c11
              by_cases c12 : x9_1 < (l1.length : Int)
              · rw [if_pos c12] at H
                have c12b0 : decide (x9_1 < (l1.length : Int)) = true := decide_eq_true c12
                clear c12
                obtain ⟨bq13, hbq13⟩ : ∃ b_ : Bool, b_ = (rdOf false l1 x9_1) := ⟨_, rfl⟩
                replace H : (if bq13 = true then ((hand_Welcome.f x161000_1 x161001_1 x161002_1 x161003_1 x161002_1).bind fun bt164 => (if bt164.2.2.2.2.1 = true then (withylaw16_HandOver.j2 kj6 l1 (wrap64 (1 + (wrap64 (Int.tmod a0 9)))) bt164.2.2.2.2.2 (wrap64 (x8_1 + 1)) x9_1 bt164.2.2.2.2.1 bt164.1 bt164.2.1 bt164.2.2.1 bt164.2.2.2.1 x161000_1 x161001_1 x161002_1 x161003_1) else (withylaw16_HandOver.j2 kj6 l1 (wrap64 (1 + (wrap64 (Int.tmod a0 9)))) bt164.2.2.2.2.2 x8_1 x9_1 bt164.2.2.2.2.1 bt164.1 bt164.2.1 bt164.2.2.1 bt164.2.2.2.1 x161000_1 x161001_1 x161002_1 x161003_1))) else ((hand_Close.f kj6 x161000_1 x161001_1 x161002_1 x161003_1 (wrap64 (1 + (wrap64 (Int.tmod a0 9))))).bind fun bt170 => (if (bt170.2.2.2.1 != (x8_1 == (wrap64 (1 + (wrap64 (Int.tmod a0 9)))))) = true then (if bt170.2.1 = 0 then (some false) else (withylaw16_HandOver.l0 kj6 l1 (wrap64 (1 + (wrap64 (Int.tmod a0 9)))) bt170.2.2.2.2 x8_1 (wrap64 (x9_1 + 1)) bt170.1 bt170.2.1 bt170.2.2.1 bt170.2.2.2.1)) else (withylaw16_HandOver.l0 kj6 l1 (wrap64 (1 + (wrap64 (Int.tmod a0 9)))) bt170.2.2.2.2 x8_1 (wrap64 (x9_1 + 1)) bt170.1 bt170.2.1 bt170.2.2.1 bt170.2.2.2.1)))) = some r := by rw [← hbq13] at H; exact H
                have Nbq13 := Aside0.mk hbq13
                clear hbq13
                by_cases c14 : bq13 = true
                · subst c14
                  have H1 : ((hand_Welcome.f x161000_1 x161001_1 x161002_1 x161003_1 x161002_1).bind fun bt164 => (if bt164.2.2.2.2.1 = true then (withylaw16_HandOver.j2 kj6 l1 (wrap64 (1 + (wrap64 (Int.tmod a0 9)))) bt164.2.2.2.2.2 (wrap64 (x8_1 + 1)) x9_1 bt164.2.2.2.2.1 bt164.1 bt164.2.1 bt164.2.2.1 bt164.2.2.2.1 x161000_1 x161001_1 x161002_1 x161003_1) else (withylaw16_HandOver.j2 kj6 l1 (wrap64 (1 + (wrap64 (Int.tmod a0 9)))) bt164.2.2.2.2.2 x8_1 x9_1 bt164.2.2.2.2.1 bt164.1 bt164.2.1 bt164.2.2.1 bt164.2.2.2.1 x161000_1 x161001_1 x161002_1 x161003_1))) = some r := by rw [if_pos rfl] at H; exact H
                  clear H
                  have H := H1
                  clear H1
                  replace H := Option.bind_eq_some_iff.mp H
                  obtain ⟨⟨t164, t165, t166, t167, t168, t169⟩, A150, H⟩ := H
                  replace H : (if t168 = true then (withylaw16_HandOver.j2 kj6 l1 (wrap64 (1 + (wrap64 (Int.tmod a0 9)))) t169 (wrap64 (x8_1 + 1)) x9_1 t168 t164 t165 t166 t167 x161000_1 x161001_1 x161002_1 x161003_1) else (withylaw16_HandOver.j2 kj6 l1 (wrap64 (1 + (wrap64 (Int.tmod a0 9)))) t169 x8_1 x9_1 t168 t164 t165 t166 t167 x161000_1 x161001_1 x161002_1 x161003_1)) = some r := H
                  have A15 := Aside0.mk A150
                  clear A150
                  have HC16 := Aside0.mk H
                  clear H
                  have p162 : 0 ≤ (x9_1 : Int) := of_decide_eq_true (by first | (with_reducible assumption) | assumption)
                  have q162 : x9_1 < (l1.length : Int) := of_decide_eq_true (by first | (with_reducible assumption) | assumption)
                  obtain ⟨ad162, e162, hx162_0⟩ := Kd.at_bool HR1.out x9_1 p162 q162
                  (try rw [← Nbq13.out] at hx162_0)
                  cases e162
                  replace hx162_0 := (HB.out.cell (World.block_lt_of_cell? w _ hx162_0)).trans hx162_0
                  replace p162 := eq_true p162
                  replace q162 := eq_true q162
                  have hcz17_0 : wc.cell? ⟨gb160, 0, none⟩ = some (.int .i64 x161000_1) := (blk_cell BK160.out 0).trans rfl
                  have hcz17_1 : wc.cell? ⟨gb160, 1, none⟩ = some (.int .i64 x161001_1) := (blk_cell BK160.out 1).trans rfl
                  have hcz17_2 : wc.cell? ⟨gb160, 2, none⟩ = some (.int .i64 x161002_1) := (blk_cell BK160.out 2).trans rfl
                  have hcz17_3 : wc.cell? ⟨gb160, 3, none⟩ = some (.bool x161003_1) := (blk_cell BK160.out 3).trans rfl
                  have hfz17_0 := blk_frozen BK160.out 0
                  have hfz17_1 := blk_frozen BK160.out 1
                  have hfz17_2 := blk_frozen BK160.out 2
                  have hfz17_3 := blk_frozen BK160.out 3
                  go_upto_if 48 with (first | ((with_reducible refine gate_dst (N := 10) rfl ?_); refine box_event ?hg (N := 10) ?hd (cs := #[.int .i64 0, .int .i64 0, .int .i64 0, .bool false]) (t := 23) ?hr ?_; (case hd => rfl); (case hg => rfl); (case hr => first | (go_simp; done) | (go_simp; rfl)); intro gb163 hg w18 hbox hb; have n0_ := Aside0.mk (blk_below (g := gb160) (o := .cells #[.int .i64 x161000_1, .int .i64 x161001_1, .int .i64 x161002_1, .bool x161003_1] 23 (0, 0)) (by (with_reducible repeat (first | refine blk_drewN ?_ _ | refine blk_drew ?_ | refine blk_alloc ?_ _)); exact BK160.out) hb); have n1_ := Aside0.mk (below_step (by repeat (first | (with_reducible first | exact HB.out | apply below_alloc | apply pw_below_drewN | apply below_drew1 | refine below_set ?_ GE160.out) | exact HB.out)) hb); have n2_ := Aside0.mk (hbox); have n3_ := Aside0.mk ((by rw [hg]; exact (below_size (by repeat (first | (with_reducible first | exact HB.out | apply below_alloc | apply pw_below_drewN | apply below_drew1 | refine below_set ?_ GE160.out) | exact HB.out))) : w.heap.size ≤ gb163)); have n4_ := Aside0.mk ((by rw [hg]; exact (below_size (by repeat (first | (with_reducible first | exact HB.out | apply below_alloc | apply pw_below_drewN | apply below_drew1 | refine below_set ?_ GE160.out) | exact HB.out))) : w.heap.size ≤ gb163)); have n5_ := Aside0.mk ((by rw [hg]; exact Nat.ne_of_lt (blk_lt (g := gb160) (o := .cells #[.int .i64 x161000_1, .int .i64 x161001_1, .int .i64 x161002_1, .bool x161003_1] 23 (0, 0)) (by (with_reducible repeat (first | refine blk_drewN ?_ _ | refine blk_drew ?_ | refine blk_alloc ?_ _)); exact BK160.out)) : gb160 ≠ gb163)); have n6_ := Aside0.mk ((by rw [hg]; exact Nat.ne_of_gt (blk_lt (g := gb160) (o := .cells #[.int .i64 x161000_1, .int .i64 x161001_1, .int .i64 x161002_1, .bool x161003_1] 23 (0, 0)) (by (with_reducible repeat (first | refine blk_drewN ?_ _ | refine blk_drew ?_ | refine blk_alloc ?_ _)); exact BK160.out)) : gb163 ≠ gb160)); clear BK160; clear HB; have BK160 := n0_; have HB := n1_; have BK163 := n2_; have GW163 := n3_; have GE163 := n4_; have NB160_163 := n5_; have NB163_160 := n6_; clear n0_ n1_ n2_ n3_ n4_ n5_ n6_; clear hb hbox hg; have hnb19 := NB163_160.out; have hnc19 := NB160_163.out; have hcz20_0 : w18.cell? ⟨gb163, 0, none⟩ = some (.int .i64 0) := (blk_cell BK163.out 0).trans rfl; have hcz20_1 : w18.cell? ⟨gb163, 1, none⟩ = some (.int .i64 0) := (blk_cell BK163.out 1).trans rfl; have hcz20_2 : w18.cell? ⟨gb163, 2, none⟩ = some (.int .i64 0) := (blk_cell BK163.out 2).trans rfl; have hcz20_3 : w18.cell? ⟨gb163, 3, none⟩ = some (.bool false) := (blk_cell BK163.out 3).trans rfl; have hfz20_0 := blk_frozen BK163.out 0; have hfz20_1 := blk_frozen BK163.out 1; have hfz20_2 := blk_frozen BK163.out 2; have hfz20_3 := blk_frozen BK163.out 3; have hcz21_0 : w18.cell? ⟨gb160, 0, none⟩ = some (.int .i64 x161000_1) := (blk_cell BK160.out 0).trans rfl; have hcz21_1 : w18.cell? ⟨gb160, 1, none⟩ = some (.int .i64 x161001_1) := (blk_cell BK160.out 1).trans rfl; have hcz21_2 : w18.cell? ⟨gb160, 2, none⟩ = some (.int .i64 x161002_1) := (blk_cell BK160.out 2).trans rfl; have hcz21_3 : w18.cell? ⟨gb160, 3, none⟩ = some (.bool x161003_1) := (blk_cell BK160.out 3).trans rfl; have hfz21_0 := blk_frozen BK160.out 0; have hfz21_1 := blk_frozen BK160.out 1; have hfz21_2 := blk_frozen BK160.out 2; have hfz21_3 := blk_frozen BK160.out 3) | ((with_reducible refine gate_callee (f := 9) rfl ?_); refine goesL_ (some 44) rfl rfl Try.func9 (by kernel_rfl) rfl #[.agg #[.int .i64 x161000_1, .int .i64 x161001_1, .int .i64 x161002_1, .bool x161003_1], .int .i64 x161002_1] rfl (by (try simp only [List.map_toArray, List.map_cons, List.map_nil]); first | done | rfl | (simp only [List.length_drop, List.length_take]; rfl)) ?_; (with_reducible refine (hand_Welcome.calls x161000_1 x161001_1 x161002_1 x161003_1 x161002_1 t164 t165 t166 t167 t168 t169 _ A15.out).mono ?_); rintro e w22 ⟨rfl, hb⟩; refine ⟨_, rfl, ?_⟩; have n0_ := Aside0.mk (blk_below (g := gb160) (o := .cells #[.int .i64 x161000_1, .int .i64 x161001_1, .int .i64 x161002_1, .bool x161003_1] 23 (0, 0)) (by (with_reducible repeat (first | refine blk_drewN ?_ _ | refine blk_drew ?_ | refine blk_alloc ?_ _)); refine blk_far ?_ NB160_163.out _; (with_reducible repeat (first | refine blk_drewN ?_ _ | refine blk_drew ?_ | refine blk_alloc ?_ _)); refine blk_far ?_ NB160_163.out _; (with_reducible repeat (first | refine blk_drewN ?_ _ | refine blk_drew ?_ | refine blk_alloc ?_ _)); refine blk_far ?_ NB160_163.out _; (with_reducible repeat (first | refine blk_drewN ?_ _ | refine blk_drew ?_ | refine blk_alloc ?_ _)); refine blk_far ?_ NB160_163.out _; (with_reducible repeat (first | refine blk_drewN ?_ _ | refine blk_drew ?_ | refine blk_alloc ?_ _)); exact BK160.out) hb); have n1_ := Aside0.mk (blk_below (g := gb163) (o := .cells #[.int .i64 x161000_1, .int .i64 x161001_1, .int .i64 x161002_1, .bool x161003_1] 23 (0, 0)) (by (with_reducible repeat (first | refine blk_drewN ?_ _ | refine blk_drew ?_ | refine blk_alloc ?_ _)); refine blk_put (cs := #[.int .i64 x161000_1, .int .i64 x161001_1, .int .i64 x161002_1, .bool false]) ?_ 3 _ rfl; (with_reducible repeat (first | refine blk_drewN ?_ _ | refine blk_drew ?_ | refine blk_alloc ?_ _)); refine blk_put (cs := #[.int .i64 x161000_1, .int .i64 x161001_1, .int .i64 0, .bool false]) ?_ 2 _ rfl; (with_reducible repeat (first | refine blk_drewN ?_ _ | refine blk_drew ?_ | refine blk_alloc ?_ _)); refine blk_put (cs := #[.int .i64 x161000_1, .int .i64 0, .int .i64 0, .bool false]) ?_ 1 _ rfl; (with_reducible repeat (first | refine blk_drewN ?_ _ | refine blk_drew ?_ | refine blk_alloc ?_ _)); refine blk_put (cs := #[.int .i64 0, .int .i64 0, .int .i64 0, .bool false]) ?_ 0 _ rfl; (with_reducible repeat (first | refine blk_drewN ?_ _ | refine blk_drew ?_ | refine blk_alloc ?_ _)); exact BK163.out) hb); have n2_ := Aside0.mk (below_step (by repeat (first | (with_reducible first | exact HB.out | apply below_alloc | apply pw_below_drewN | apply below_drew1 | refine below_set ?_ GE160.out | refine below_set ?_ GE163.out) | exact HB.out)) hb); clear BK160; clear BK163; clear HB; have BK160 := n0_; have BK163 := n1_; have HB := n2_; clear n0_ n1_ n2_; (try clear hb); (try clear hb2); (try clear hk); (try clear hi); have hcz23_0 : w22.cell? ⟨gb160, 0, none⟩ = some (.int .i64 x161000_1) := (blk_cell BK160.out 0).trans rfl; have hcz23_1 : w22.cell? ⟨gb160, 1, none⟩ = some (.int .i64 x161001_1) := (blk_cell BK160.out 1).trans rfl; have hcz23_2 : w22.cell? ⟨gb160, 2, none⟩ = some (.int .i64 x161002_1) := (blk_cell BK160.out 2).trans rfl; have hcz23_3 : w22.cell? ⟨gb160, 3, none⟩ = some (.bool x161003_1) := (blk_cell BK160.out 3).trans rfl; have hfz23_0 := blk_frozen BK160.out 0; have hfz23_1 := blk_frozen BK160.out 1; have hfz23_2 := blk_frozen BK160.out 2; have hfz23_3 := blk_frozen BK160.out 3))
                  (try simp only [Act.put, List.setIfInBounds_toArray, List.set_cons_zero, List.set_cons_succ])
                  go_cut [8] (fun v8 wc => ∃ (kq : Nat) (x8_15 : Int), v8 = .int .i64 x8_15 ∧ Aside0 (withylaw16_HandOver.j2 kq l1 (wrap64 (1 + (wrap64 (Int.tmod a0 9)))) t169 x8_15 x9_1 t168 t164 t165 t166 t167 x161000_1 x161001_1 x161002_1 x161003_1 = some r) ∧ Aside0 (kq ≤ kj6) ∧ Aside0 (wc.heap[gb160]? = some (.cells #[.int .i64 t164, .int .i64 t165, .int .i64 t166, .bool t167] 23 (0, 0))) ∧ Aside0 (wc.heap[gb163]? = some (.cells #[.int .i64 x161000_1, .int .i64 x161001_1, .int .i64 x161002_1, .bool x161003_1] 23 (0, 0))) ∧ Aside0 (Below w.heap.size w wc))
                  case first =>
                    have H := HC16.out
                    clear HC16
                    by_cases c24 : t168 = true
                    · subst c24
                      have H1 : (withylaw16_HandOver.j2 kj6 l1 (wrap64 (1 + (wrap64 (Int.tmod a0 9)))) t169 (wrap64 (x8_1 + 1)) x9_1 true t164 t165 t166 t167 x161000_1 x161001_1 x161002_1 x161003_1) = some r := by rw [if_pos rfl] at H; exact H
                      clear H
                      have H := H1
                      clear H1
                      have H' := Aside0.mk H
                      clear H
                      go_wp2
                      go_meet
                      case rel => exact ⟨_, (wrap64 (x8_1 + 1)), (by first | rfl | (simp; done) | (simp [*]; done) | (congr 1; omega) | (simp; omega)), H', ⟨by have := HK1.out; have := HJ6.out; first | omega | exact Nat.le_refl _⟩, ⟨by (with_reducible repeat (first | refine blk_drewN ?_ _ | refine blk_drew ?_ | refine blk_alloc ?_ _)); refine blk_put (cs := #[.int .i64 t164, .int .i64 t165, .int .i64 t166, .bool x161003_1]) ?_ 3 _ rfl; (with_reducible repeat (first | refine blk_drewN ?_ _ | refine blk_drew ?_ | refine blk_alloc ?_ _)); refine blk_put (cs := #[.int .i64 t164, .int .i64 t165, .int .i64 x161002_1, .bool x161003_1]) ?_ 2 _ rfl; (with_reducible repeat (first | refine blk_drewN ?_ _ | refine blk_drew ?_ | refine blk_alloc ?_ _)); refine blk_put (cs := #[.int .i64 t164, .int .i64 x161001_1, .int .i64 x161002_1, .bool x161003_1]) ?_ 1 _ rfl; (with_reducible repeat (first | refine blk_drewN ?_ _ | refine blk_drew ?_ | refine blk_alloc ?_ _)); refine blk_put (cs := #[.int .i64 x161000_1, .int .i64 x161001_1, .int .i64 x161002_1, .bool x161003_1]) ?_ 0 _ rfl; (with_reducible repeat (first | refine blk_drewN ?_ _ | refine blk_drew ?_ | refine blk_alloc ?_ _)); exact BK160.out⟩, ⟨by (with_reducible repeat (first | refine blk_drewN ?_ _ | refine blk_drew ?_ | refine blk_alloc ?_ _)); refine blk_far ?_ NB163_160.out _; (with_reducible repeat (first | refine blk_drewN ?_ _ | refine blk_drew ?_ | refine blk_alloc ?_ _)); refine blk_far ?_ NB163_160.out _; (with_reducible repeat (first | refine blk_drewN ?_ _ | refine blk_drew ?_ | refine blk_alloc ?_ _)); refine blk_far ?_ NB163_160.out _; (with_reducible repeat (first | refine blk_drewN ?_ _ | refine blk_drew ?_ | refine blk_alloc ?_ _)); refine blk_far ?_ NB163_160.out _; (with_reducible repeat (first | refine blk_drewN ?_ _ | refine blk_drew ?_ | refine blk_alloc ?_ _)); exact BK163.out⟩, ⟨by repeat (first | (with_reducible first | exact HB.out | apply below_alloc | apply pw_below_drewN | apply below_drew1 | refine below_set ?_ GE160.out | refine below_set ?_ GE163.out) | exact HB.out)⟩⟩
                    · replace c24 := Bool.eq_false_iff.mpr c24
                      subst c24
                      have H1 : (withylaw16_HandOver.j2 kj6 l1 (wrap64 (1 + (wrap64 (Int.tmod a0 9)))) t169 x8_1 x9_1 false t164 t165 t166 t167 x161000_1 x161001_1 x161002_1 x161003_1) = some r := by rw [if_neg (show ¬ (false = true) by decide)] at H; exact H
                      clear H
                      have H := H1
                      clear H1
                      have H' := Aside0.mk H
                      clear H
                      go_wp2
                      go_meet
                      case rel => exact ⟨_, (x8_1), (by first | rfl | (simp; done) | (simp [*]; done) | (congr 1; omega) | (simp; omega)), H', ⟨by have := HK1.out; have := HJ6.out; first | omega | exact Nat.le_refl _⟩, ⟨by (with_reducible repeat (first | refine blk_drewN ?_ _ | refine blk_drew ?_ | refine blk_alloc ?_ _)); refine blk_put (cs := #[.int .i64 t164, .int .i64 t165, .int .i64 t166, .bool x161003_1]) ?_ 3 _ rfl; (with_reducible repeat (first | refine blk_drewN ?_ _ | refine blk_drew ?_ | refine blk_alloc ?_ _)); refine blk_put (cs := #[.int .i64 t164, .int .i64 t165, .int .i64 x161002_1, .bool x161003_1]) ?_ 2 _ rfl; (with_reducible repeat (first | refine blk_drewN ?_ _ | refine blk_drew ?_ | refine blk_alloc ?_ _)); refine blk_put (cs := #[.int .i64 t164, .int .i64 x161001_1, .int .i64 x161002_1, .bool x161003_1]) ?_ 1 _ rfl; (with_reducible repeat (first | refine blk_drewN ?_ _ | refine blk_drew ?_ | refine blk_alloc ?_ _)); refine blk_put (cs := #[.int .i64 x161000_1, .int .i64 x161001_1, .int .i64 x161002_1, .bool x161003_1]) ?_ 0 _ rfl; (with_reducible repeat (first | refine blk_drewN ?_ _ | refine blk_drew ?_ | refine blk_alloc ?_ _)); exact BK160.out⟩, ⟨by (with_reducible repeat (first | refine blk_drewN ?_ _ | refine blk_drew ?_ | refine blk_alloc ?_ _)); refine blk_far ?_ NB163_160.out _; (with_reducible repeat (first | refine blk_drewN ?_ _ | refine blk_drew ?_ | refine blk_alloc ?_ _)); refine blk_far ?_ NB163_160.out _; (with_reducible repeat (first | refine blk_drewN ?_ _ | refine blk_drew ?_ | refine blk_alloc ?_ _)); refine blk_far ?_ NB163_160.out _; (with_reducible repeat (first | refine blk_drewN ?_ _ | refine blk_drew ?_ | refine blk_alloc ?_ _)); refine blk_far ?_ NB163_160.out _; (with_reducible repeat (first | refine blk_drewN ?_ _ | refine blk_drew ?_ | refine blk_alloc ?_ _)); exact BK163.out⟩, ⟨by repeat (first | (with_reducible first | exact HB.out | apply below_alloc | apply pw_below_drewN | apply below_drew1 | refine below_set ?_ GE160.out | refine below_set ?_ GE163.out) | exact HB.out)⟩⟩
                  case rest =>
                    clear HC16
                    try clear c1
                    try clear p1
                    try clear q1
                    try clear hx1
                    try clear c2
                    try clear p2
                    try clear c5
                    try clear p6
                    try clear c8
                    try clear c8b0
                    try clear c9
                    try clear c9b0
                    try clear c10
                    try clear c11
                    try clear c11b0
                    try clear c12
                    try clear c12b0
                    try clear q13
                    try clear c14
                    try clear c15
                    try clear p16
                    try clear q16
                    try clear hx16
                    try clear c19
                    try clear c24
                    try clear hcz17_0
                    try clear hcz17_1
                    try clear hcz17_2
                    try clear hcz17_3
                    try clear hcz20_0
                    try clear hcz20_1
                    try clear hcz20_2
                    try clear hcz20_3
                    try clear hcz21_0
                    try clear hcz21_1
                    try clear hcz21_2
                    try clear hcz21_3
                    try clear hcz23_0
                    try clear hcz23_1
                    try clear hcz23_2
                    try clear hcz23_3
                    try clear hcz6_0
                    try clear hcz6_1
                    try clear hcz6_2
                    try clear hcz6_3
                    try clear hfz17_0
                    try clear hfz17_1
                    try clear hfz17_2
                    try clear hfz17_3
                    try clear hfz20_0
                    try clear hfz20_1
                    try clear hfz20_2
                    try clear hfz20_3
                    try clear hfz21_0
                    try clear hfz21_1
                    try clear hfz21_2
                    try clear hfz21_3
                    try clear hfz23_0
                    try clear hfz23_1
                    try clear hfz23_2
                    try clear hfz23_3
                    try clear hfz6_0
                    try clear hfz6_1
                    try clear hfz6_2
                    try clear hfz6_3
                    try clear hx162_0
                    try clear p162
                    try clear p2
                    try clear p6
                    try clear q162
                    obtain ⟨kq, x8_15, rfl, HA, HJ15, BK160, BK163, HB⟩ := hcut
                    cases kq with
                    | zero => exact absurd HA.out (by simp [withylaw16_HandOver.j2])
                    | succ kj15 =>
                      have H := HA.out
                      clear HA
                      simp only [withylaw16_HandOver.j2] at H
                      have HC25 := Aside0.mk H
                      clear H
                      go_upto_region 13 with (fail)
                      go_cut [64] (fun v64 wc => ∃ (kq : Nat) (x64_24 : Bool), v64 = .bool x64_24 ∧ Aside0 (withylaw16_HandOver.j3 kq l1 (wrap64 (1 + (wrap64 (Int.tmod a0 9)))) t169 x8_15 x9_1 x64_24 t164 t165 t166 t167 = some r) ∧ Aside0 (kq ≤ kj15) ∧ Aside0 (wc.heap[gb160]? = some (.cells #[.int .i64 t164, .int .i64 t165, .int .i64 t166, .bool t167] 23 (0, 0))) ∧ Aside0 (wc.heap[gb163]? = some (.cells #[.int .i64 x161000_1, .int .i64 x161001_1, .int .i64 x161002_1, .bool x161003_1] 23 (0, 0))) ∧ Aside0 (Below w.heap.size w wc))
                      case first =>
                        have H := HC25.out
                        clear HC25
                        obtain ⟨bq26, hbq26⟩ : ∃ b_ : Bool, (t168 != (decide (x161002_1 > 0))) = b_ := ⟨_, rfl⟩
                        replace H : (if bq26 = true then (withylaw16_HandOver.j3 kj15 l1 (wrap64 (1 + (wrap64 (Int.tmod a0 9)))) t169 x8_15 x9_1 true t164 t165 t166 t167) else (if t168 = true then (withylaw16_HandOver.j3 kj15 l1 (wrap64 (1 + (wrap64 (Int.tmod a0 9)))) t169 x8_15 x9_1 (t165 != x8_15) t164 t165 t166 t167) else (withylaw16_HandOver.j3 kj15 l1 (wrap64 (1 + (wrap64 (Int.tmod a0 9)))) t169 x8_15 x9_1 false t164 t165 t166 t167))) = some r := by first | (rw [hbq26] at H; exact H) | (simp only [hbq26] at H ⊢; exact H)
                        have hbq26_ : (!(t168 == (decide (x161002_1 > 0)))) = bq26 := hbq26
                        by_cases c27 : bq26 = true
                        · subst c27
                          have H1 : (withylaw16_HandOver.j3 kj15 l1 (wrap64 (1 + (wrap64 (Int.tmod a0 9)))) t169 x8_15 x9_1 true t164 t165 t166 t167) = some r := by rw [if_pos rfl] at H; exact H
                          clear H
                          have H := H1
                          clear H1
                          have H' := Aside0.mk H
                          clear H
                          have hnb28 := NB163_160.out
                          have hnc28 := NB160_163.out
                          have hcz29_0 : wc.cell? ⟨gb163, 0, none⟩ = some (.int .i64 x161000_1) := (blk_cell BK163.out 0).trans rfl
                          have hcz29_1 : wc.cell? ⟨gb163, 1, none⟩ = some (.int .i64 x161001_1) := (blk_cell BK163.out 1).trans rfl
                          have hcz29_2 : wc.cell? ⟨gb163, 2, none⟩ = some (.int .i64 x161002_1) := (blk_cell BK163.out 2).trans rfl
                          have hcz29_3 : wc.cell? ⟨gb163, 3, none⟩ = some (.bool x161003_1) := (blk_cell BK163.out 3).trans rfl
                          have hfz29_0 := blk_frozen BK163.out 0
                          have hfz29_1 := blk_frozen BK163.out 1
                          have hfz29_2 := blk_frozen BK163.out 2
                          have hfz29_3 := blk_frozen BK163.out 3
                          go_wp2
                          go_meet
                          case rel => exact ⟨_, (true), (by first | rfl | (simp; done) | (simp [*]; done) | (congr 1; omega) | (simp; omega)), H', ⟨by have := HK1.out; have := HJ6.out; have := HJ15.out; first | omega | exact Nat.le_refl _⟩, ⟨by (with_reducible repeat (first | refine blk_drewN ?_ _ | refine blk_drew ?_ | refine blk_alloc ?_ _)); exact BK160.out⟩, ⟨by (with_reducible repeat (first | refine blk_drewN ?_ _ | refine blk_drew ?_ | refine blk_alloc ?_ _)); exact BK163.out⟩, ⟨by repeat (first | (with_reducible first | exact HB.out | apply below_alloc | apply pw_below_drewN | apply below_drew1 | refine below_set ?_ GE160.out | refine below_set ?_ GE163.out) | exact HB.out)⟩⟩
                          all_goals (exfalso; simp at hbq26; omega)
                        · replace c27 := Bool.eq_false_iff.mpr c27
                          subst c27
                          have H1 : (if t168 = true then (withylaw16_HandOver.j3 kj15 l1 (wrap64 (1 + (wrap64 (Int.tmod a0 9)))) t169 x8_15 x9_1 (t165 != x8_15) t164 t165 t166 t167) else (withylaw16_HandOver.j3 kj15 l1 (wrap64 (1 + (wrap64 (Int.tmod a0 9)))) t169 x8_15 x9_1 false t164 t165 t166 t167)) = some r := by rw [if_neg (show ¬ (false = true) by decide)] at H; exact H
                          clear H
                          have H := H1
                          clear H1
                          by_cases c30 : t168 = true
                          · subst c30
                            have H1 : (withylaw16_HandOver.j3 kj15 l1 (wrap64 (1 + (wrap64 (Int.tmod a0 9)))) t169 x8_15 x9_1 (t165 != x8_15) t164 t165 t166 t167) = some r := by rw [if_pos rfl] at H; exact H
                            clear H
                            have H := H1
                            clear H1
                            have H' := Aside0.mk H
                            clear H
                            have hnb31 := NB163_160.out
                            have hnc31 := NB160_163.out
                            have hcz32_0 : wc.cell? ⟨gb163, 0, none⟩ = some (.int .i64 x161000_1) := (blk_cell BK163.out 0).trans rfl
                            have hcz32_1 : wc.cell? ⟨gb163, 1, none⟩ = some (.int .i64 x161001_1) := (blk_cell BK163.out 1).trans rfl
                            have hcz32_2 : wc.cell? ⟨gb163, 2, none⟩ = some (.int .i64 x161002_1) := (blk_cell BK163.out 2).trans rfl
                            have hcz32_3 : wc.cell? ⟨gb163, 3, none⟩ = some (.bool x161003_1) := (blk_cell BK163.out 3).trans rfl
                            have hfz32_0 := blk_frozen BK163.out 0
                            have hfz32_1 := blk_frozen BK163.out 1
                            have hfz32_2 := blk_frozen BK163.out 2
                            have hfz32_3 := blk_frozen BK163.out 3
                            have hcz33_0 : wc.cell? ⟨gb160, 0, none⟩ = some (.int .i64 t164) := (blk_cell BK160.out 0).trans rfl
                            have hcz33_1 : wc.cell? ⟨gb160, 1, none⟩ = some (.int .i64 t165) := (blk_cell BK160.out 1).trans rfl
                            have hcz33_2 : wc.cell? ⟨gb160, 2, none⟩ = some (.int .i64 t166) := (blk_cell BK160.out 2).trans rfl
                            have hcz33_3 : wc.cell? ⟨gb160, 3, none⟩ = some (.bool t167) := (blk_cell BK160.out 3).trans rfl
                            have hfz33_0 := blk_frozen BK160.out 0
                            have hfz33_1 := blk_frozen BK160.out 1
                            have hfz33_2 := blk_frozen BK160.out 2
                            have hfz33_3 := blk_frozen BK160.out 3
                            go_wp2
                            go_meet
                            case rel => exact ⟨_, ((t165 != x8_15)), (by first | rfl | (simp; done) | (simp [*]; done) | (congr 1; omega) | (simp; omega)), H', ⟨by have := HK1.out; have := HJ6.out; have := HJ15.out; first | omega | exact Nat.le_refl _⟩, ⟨by (with_reducible repeat (first | refine blk_drewN ?_ _ | refine blk_drew ?_ | refine blk_alloc ?_ _)); exact BK160.out⟩, ⟨by (with_reducible repeat (first | refine blk_drewN ?_ _ | refine blk_drew ?_ | refine blk_alloc ?_ _)); exact BK163.out⟩, ⟨by repeat (first | (with_reducible first | exact HB.out | apply below_alloc | apply pw_below_drewN | apply below_drew1 | refine below_set ?_ GE160.out | refine below_set ?_ GE163.out) | exact HB.out)⟩⟩
                            all_goals (exfalso; simp at hbq26; omega)
                          · replace c30 := Bool.eq_false_iff.mpr c30
                            subst c30
                            have H1 : (withylaw16_HandOver.j3 kj15 l1 (wrap64 (1 + (wrap64 (Int.tmod a0 9)))) t169 x8_15 x9_1 false t164 t165 t166 t167) = some r := by rw [if_neg (show ¬ (false = true) by decide)] at H; exact H
                            clear H
                            have H := H1
                            clear H1
                            have H' := Aside0.mk H
                            clear H
                            have hnb34 := NB163_160.out
                            have hnc34 := NB160_163.out
                            have hcz35_0 : wc.cell? ⟨gb163, 0, none⟩ = some (.int .i64 x161000_1) := (blk_cell BK163.out 0).trans rfl
                            have hcz35_1 : wc.cell? ⟨gb163, 1, none⟩ = some (.int .i64 x161001_1) := (blk_cell BK163.out 1).trans rfl
                            have hcz35_2 : wc.cell? ⟨gb163, 2, none⟩ = some (.int .i64 x161002_1) := (blk_cell BK163.out 2).trans rfl
                            have hcz35_3 : wc.cell? ⟨gb163, 3, none⟩ = some (.bool x161003_1) := (blk_cell BK163.out 3).trans rfl
                            have hfz35_0 := blk_frozen BK163.out 0
                            have hfz35_1 := blk_frozen BK163.out 1
                            have hfz35_2 := blk_frozen BK163.out 2
                            have hfz35_3 := blk_frozen BK163.out 3
                            go_wp2
                            go_meet
                            case rel => exact ⟨_, (false), (by first | rfl | (simp; done) | (simp [*]; done) | (congr 1; omega) | (simp; omega)), H', ⟨by have := HK1.out; have := HJ6.out; have := HJ15.out; first | omega | exact Nat.le_refl _⟩, ⟨by (with_reducible repeat (first | refine blk_drewN ?_ _ | refine blk_drew ?_ | refine blk_alloc ?_ _)); exact BK160.out⟩, ⟨by (with_reducible repeat (first | refine blk_drewN ?_ _ | refine blk_drew ?_ | refine blk_alloc ?_ _)); exact BK163.out⟩, ⟨by repeat (first | (with_reducible first | exact HB.out | apply below_alloc | apply pw_below_drewN | apply below_drew1 | refine below_set ?_ GE160.out | refine below_set ?_ GE163.out) | exact HB.out)⟩⟩
                            all_goals (exfalso; simp at hbq26; omega)
                      case rest =>
                        clear HC25
                        try clear c1
                        try clear p1
                        try clear q1
                        try clear hx1
                        try clear c2
                        try clear p2
                        try clear q2
                        try clear c3
                        try clear c5
                        try clear p6
                        try clear c8
                        try clear c8b0
                        try clear c9
                        try clear c9b0
                        try clear c10
                        try clear c11
                        try clear c11b0
                        try clear c12
                        try clear c12b0
                        try clear q13
                        try clear c14
                        try clear c15
                        try clear p16
                        try clear q16
                        try clear hx16
                        try clear c19
                        try clear c24
                        try clear q26
                        try clear c27
                        try clear c28
                        try clear c30
                        try clear c31
                        try clear c34
                        try clear hcz17_0
                        try clear hcz17_1
                        try clear hcz17_2
                        try clear hcz17_3
                        try clear hcz20_0
                        try clear hcz20_1
                        try clear hcz20_2
                        try clear hcz20_3
                        try clear hcz21_0
                        try clear hcz21_1
                        try clear hcz21_2
                        try clear hcz21_3
                        try clear hcz23_0
                        try clear hcz23_1
                        try clear hcz23_2
                        try clear hcz23_3
                        try clear hcz29_0
                        try clear hcz29_1
                        try clear hcz29_2
                        try clear hcz29_3
                        try clear hcz32_0
                        try clear hcz32_1
                        try clear hcz32_2
                        try clear hcz32_3
                        try clear hcz33_0
                        try clear hcz33_1
                        try clear hcz33_2
                        try clear hcz33_3
                        try clear hcz35_0
                        try clear hcz35_1
                        try clear hcz35_2
                        try clear hcz35_3
                        try clear hcz6_0
                        try clear hcz6_1
                        try clear hcz6_2
                        try clear hcz6_3
                        try clear hfz17_0
                        try clear hfz17_1
                        try clear hfz17_2
                        try clear hfz17_3
                        try clear hfz20_0
                        try clear hfz20_1
                        try clear hfz20_2
                        try clear hfz20_3
                        try clear hfz21_0
                        try clear hfz21_1
                        try clear hfz21_2
                        try clear hfz21_3
                        try clear hfz23_0
                        try clear hfz23_1
                        try clear hfz23_2
                        try clear hfz23_3
                        try clear hfz29_0
                        try clear hfz29_1
                        try clear hfz29_2
                        try clear hfz29_3
                        try clear hfz32_0
                        try clear hfz32_1
                        try clear hfz32_2
                        try clear hfz32_3
                        try clear hfz33_0
                        try clear hfz33_1
                        try clear hfz33_2
                        try clear hfz33_3
                        try clear hfz35_0
                        try clear hfz35_1
                        try clear hfz35_2
                        try clear hfz35_3
                        try clear hfz6_0
                        try clear hfz6_1
                        try clear hfz6_2
                        try clear hfz6_3
                        try clear hx162_0
                        try clear p1
                        try clear p16
                        try clear p162
                        try clear p2
                        try clear p6
                        try clear q1
                        try clear q13
                        try clear q16
                        try clear q162
                        obtain ⟨kq, x64_24, rfl, HA, HJ24, BK160, BK163, HB⟩ := hcut
                        cases kq with
                        | zero => exact absurd HA.out (by simp [withylaw16_HandOver.j3])
                        | succ kj24 =>
                          have H := HA.out
                          clear HA
                          simp only [withylaw16_HandOver.j3] at H
                          by_cases c36 : x64_24 = true
                          · subst c36
                            have H1 : (some false) = some r := by rw [if_pos rfl] at H; exact H
                            clear H
                            have H := H1
                            clear H1
                            exact absurd ((Option.some.inj H).trans HR_.out) (by simp)
                          · replace c36 := Bool.eq_false_iff.mpr c36
                            subst c36
                            have H1 : (withylaw16_HandOver.l0 kj24 l1 (wrap64 (1 + (wrap64 (Int.tmod a0 9)))) t169 x8_15 (wrap64 (x9_1 + 1)) t164 t165 t166 t167) = some r := by rw [if_neg (show ¬ (false = true) by decide)] at H; exact H
                            clear H
                            have H := H1
                            clear H1
                            have H' := Aside0.mk H
                            clear H
                            go_wp2
                            go_roundg kj24
                            case measure => have := HK1.out; have := HJ6.out; have := HJ15.out; have := HJ24.out; omega
                            case rel => exact ⟨(t169), (x8_15), (wrap64 (x9_1 + 1)), (t164), (t165), (t166), (t167), (by first | rfl | (simp; done) | (simp [*]; done) | (congr 1; omega) | (simp; omega)), (by first | rfl | (simp; done) | (simp [*]; done) | (congr 1; omega) | (simp; omega)), (by first | rfl | (simp; done) | (simp [*]; done) | (congr 1; omega) | (simp; omega)), H', ⟨by have := HK1.out; have := HJ6.out; have := HJ15.out; have := HJ24.out; omega⟩, ⟨by (with_reducible repeat (first | refine blk_drewN ?_ _ | refine blk_drew ?_ | refine blk_alloc ?_ _)); exact BK160.out⟩, ⟨by repeat (first | (with_reducible first | exact HB.out | apply below_alloc | apply pw_below_drewN | apply below_drew1 | refine below_set ?_ GE160.out | refine below_set ?_ GE163.out) | exact HB.out)⟩⟩
                · replace c14 := Bool.eq_false_iff.mpr c14
                  subst c14
                  have H1 : ((hand_Close.f kj6 x161000_1 x161001_1 x161002_1 x161003_1 (wrap64 (1 + (wrap64 (Int.tmod a0 9))))).bind fun bt170 => (if (bt170.2.2.2.1 != (x8_1 == (wrap64 (1 + (wrap64 (Int.tmod a0 9)))))) = true then (if bt170.2.1 = 0 then (some false) else (withylaw16_HandOver.l0 kj6 l1 (wrap64 (1 + (wrap64 (Int.tmod a0 9)))) bt170.2.2.2.2 x8_1 (wrap64 (x9_1 + 1)) bt170.1 bt170.2.1 bt170.2.2.1 bt170.2.2.2.1)) else (withylaw16_HandOver.l0 kj6 l1 (wrap64 (1 + (wrap64 (Int.tmod a0 9)))) bt170.2.2.2.2 x8_1 (wrap64 (x9_1 + 1)) bt170.1 bt170.2.1 bt170.2.2.1 bt170.2.2.2.1))) = some r := by rw [if_neg (show ¬ (false = true) by decide)] at H; exact H
                  clear H
                  have H := H1
                  clear H1
                  replace H := Option.bind_eq_some_iff.mp H
                  obtain ⟨⟨t170, t171, t172, t173, t174⟩, A370, H⟩ := H
                  replace H : (if (t173 != (x8_1 == (wrap64 (1 + (wrap64 (Int.tmod a0 9)))))) = true then (if t171 = 0 then (some false) else (withylaw16_HandOver.l0 kj6 l1 (wrap64 (1 + (wrap64 (Int.tmod a0 9)))) t174 x8_1 (wrap64 (x9_1 + 1)) t170 t171 t172 t173)) else (withylaw16_HandOver.l0 kj6 l1 (wrap64 (1 + (wrap64 (Int.tmod a0 9)))) t174 x8_1 (wrap64 (x9_1 + 1)) t170 t171 t172 t173)) = some r := H
                  have A37 := Aside0.mk A370
                  clear A370
                  obtain ⟨bq38, hbq38⟩ : ∃ b_ : Bool, (t173 != (x8_1 == (wrap64 (1 + (wrap64 (Int.tmod a0 9)))))) = b_ := ⟨_, rfl⟩
                  replace H : (if bq38 = true then (if t171 = 0 then (some false) else (withylaw16_HandOver.l0 kj6 l1 (wrap64 (1 + (wrap64 (Int.tmod a0 9)))) t174 x8_1 (wrap64 (x9_1 + 1)) t170 t171 t172 t173)) else (withylaw16_HandOver.l0 kj6 l1 (wrap64 (1 + (wrap64 (Int.tmod a0 9)))) t174 x8_1 (wrap64 (x9_1 + 1)) t170 t171 t172 t173)) = some r := by first | (rw [hbq38] at H; exact H) | (simp only [hbq38] at H ⊢; exact H)
                  have hbq38_ : (!(t173 == (x8_1 == (wrap64 (1 + (wrap64 (Int.tmod a0 9))))))) = bq38 := hbq38
                  by_cases c39 : bq38 = true
                  · subst c39
                    have H1 : (if t171 = 0 then (some false) else (withylaw16_HandOver.l0 kj6 l1 (wrap64 (1 + (wrap64 (Int.tmod a0 9)))) t174 x8_1 (wrap64 (x9_1 + 1)) t170 t171 t172 t173)) = some r := by rw [if_pos rfl] at H; exact H
                    clear H
                    have H := H1
                    clear H1
                    by_cases c40 : t171 = 0
                    · rw [if_pos c40] at H
                      have c40b0 : (t171 == 0) = true := beq_iff_eq.mpr c40
                      have c40b1 : (t171 != 0) = false := bne_eq_false_iff_eq.mpr c40
                      clear c40
                      exact absurd ((Option.some.inj H).trans HR_.out) (by simp)
                    · rw [if_neg c40] at H
                      have c40b0 : (t171 == 0) = false := beq_eq_false_iff_ne.mpr c40
                      have c40b1 : (t171 != 0) = true := bne_iff_ne.mpr c40
                      have H' := Aside0.mk H
                      clear H
                      have p162 : 0 ≤ (x9_1 : Int) := of_decide_eq_true (by first | (with_reducible assumption) | assumption)
                      have q162 : x9_1 < (l1.length : Int) := of_decide_eq_true (by first | (with_reducible assumption) | assumption)
                      obtain ⟨ad162, e162, hx162_0⟩ := Kd.at_bool HR1.out x9_1 p162 q162
                      (try rw [← Nbq13.out] at hx162_0)
                      cases e162
                      replace hx162_0 := (HB.out.cell (World.block_lt_of_cell? w _ hx162_0)).trans hx162_0
                      replace p162 := eq_true p162
                      replace q162 := eq_true q162
                      have hcz41_0 : wc.cell? ⟨gb160, 0, none⟩ = some (.int .i64 x161000_1) := (blk_cell BK160.out 0).trans rfl
                      have hcz41_1 : wc.cell? ⟨gb160, 1, none⟩ = some (.int .i64 x161001_1) := (blk_cell BK160.out 1).trans rfl
                      have hcz41_2 : wc.cell? ⟨gb160, 2, none⟩ = some (.int .i64 x161002_1) := (blk_cell BK160.out 2).trans rfl
                      have hcz41_3 : wc.cell? ⟨gb160, 3, none⟩ = some (.bool x161003_1) := (blk_cell BK160.out 3).trans rfl
                      have hfz41_0 := blk_frozen BK160.out 0
                      have hfz41_1 := blk_frozen BK160.out 1
                      have hfz41_2 := blk_frozen BK160.out 2
                      have hfz41_3 := blk_frozen BK160.out 3
                      go_wp2_with (first | ((with_reducible refine gate_callee (f := 16) rfl ?_); refine goesL_ (some 68) rfl rfl Try.func16 (by kernel_rfl) rfl #[.agg #[.int .i64 x161000_1, .int .i64 x161001_1, .int .i64 x161002_1, .bool x161003_1], .int .i64 (wrap64 (1 + (wrap64 (Int.tmod a0 9))))] rfl (by (try simp only [List.map_toArray, List.map_cons, List.map_nil]); first | done | rfl | (simp only [List.length_drop, List.length_take]; rfl)) ?_; (with_reducible refine (hand_Close.calls kj6 x161000_1 x161001_1 x161002_1 x161003_1 (wrap64 (1 + (wrap64 (Int.tmod a0 9)))) t170 t171 t172 t173 t174 _ A37.out).mono ?_); rintro e w42 ⟨rfl, hb⟩; refine ⟨_, rfl, ?_⟩; have n0_ := Aside0.mk (blk_below (g := gb160) (o := .cells #[.int .i64 x161000_1, .int .i64 x161001_1, .int .i64 x161002_1, .bool x161003_1] 23 (0, 0)) (by (with_reducible repeat (first | refine blk_drewN ?_ _ | refine blk_drew ?_ | refine blk_alloc ?_ _)); exact BK160.out) hb); have n1_ := Aside0.mk (below_step (by repeat (first | (with_reducible first | exact HB.out | apply below_alloc | apply pw_below_drewN | apply below_drew1 | refine below_set ?_ GE160.out) | exact HB.out)) hb); clear BK160; clear HB; have BK160 := n0_; have HB := n1_; clear n0_ n1_; (try clear hb); (try clear hb2); (try clear hk); (try clear hi); have hcz43_0 : w42.cell? ⟨gb160, 0, none⟩ = some (.int .i64 x161000_1) := (blk_cell BK160.out 0).trans rfl; have hcz43_1 : w42.cell? ⟨gb160, 1, none⟩ = some (.int .i64 x161001_1) := (blk_cell BK160.out 1).trans rfl; have hcz43_2 : w42.cell? ⟨gb160, 2, none⟩ = some (.int .i64 x161002_1) := (blk_cell BK160.out 2).trans rfl; have hcz43_3 : w42.cell? ⟨gb160, 3, none⟩ = some (.bool x161003_1) := (blk_cell BK160.out 3).trans rfl; have hfz43_0 := blk_frozen BK160.out 0; have hfz43_1 := blk_frozen BK160.out 1; have hfz43_2 := blk_frozen BK160.out 2; have hfz43_3 := blk_frozen BK160.out 3))
                      go_roundg kj6
                      case measure => have := HK1.out; have := HJ6.out; omega
                      case rel => exact ⟨(t174), (x8_1), (wrap64 (x9_1 + 1)), (t170), (t171), (t172), (t173), (by first | rfl | (simp; done) | (simp [*]; done) | (congr 1; omega) | (simp; omega)), (by first | rfl | (simp; done) | (simp [*]; done) | (congr 1; omega) | (simp; omega)), (by first | rfl | (simp; done) | (simp [*]; done) | (congr 1; omega) | (simp; omega)), H', ⟨by have := HK1.out; have := HJ6.out; omega⟩, ⟨by (with_reducible repeat (first | refine blk_drewN ?_ _ | refine blk_drew ?_ | refine blk_alloc ?_ _)); refine blk_put (cs := #[.int .i64 t170, .int .i64 t171, .int .i64 t172, .bool x161003_1]) ?_ 3 _ rfl; (with_reducible repeat (first | refine blk_drewN ?_ _ | refine blk_drew ?_ | refine blk_alloc ?_ _)); refine blk_put (cs := #[.int .i64 t170, .int .i64 t171, .int .i64 x161002_1, .bool x161003_1]) ?_ 2 _ rfl; (with_reducible repeat (first | refine blk_drewN ?_ _ | refine blk_drew ?_ | refine blk_alloc ?_ _)); refine blk_put (cs := #[.int .i64 t170, .int .i64 x161001_1, .int .i64 x161002_1, .bool x161003_1]) ?_ 1 _ rfl; (with_reducible repeat (first | refine blk_drewN ?_ _ | refine blk_drew ?_ | refine blk_alloc ?_ _)); refine blk_put (cs := #[.int .i64 x161000_1, .int .i64 x161001_1, .int .i64 x161002_1, .bool x161003_1]) ?_ 0 _ rfl; (with_reducible repeat (first | refine blk_drewN ?_ _ | refine blk_drew ?_ | refine blk_alloc ?_ _)); exact BK160.out⟩, ⟨by repeat (first | (with_reducible first | exact HB.out | apply below_alloc | apply pw_below_drewN | apply below_drew1 | refine below_set ?_ GE160.out) | exact HB.out)⟩⟩
                  · replace c39 := Bool.eq_false_iff.mpr c39
                    subst c39
                    have H1 : (withylaw16_HandOver.l0 kj6 l1 (wrap64 (1 + (wrap64 (Int.tmod a0 9)))) t174 x8_1 (wrap64 (x9_1 + 1)) t170 t171 t172 t173) = some r := by rw [if_neg (show ¬ (false = true) by decide)] at H; exact H
                    clear H
                    have H := H1
                    clear H1
                    have H' := Aside0.mk H
                    clear H
                    have p162 : 0 ≤ (x9_1 : Int) := of_decide_eq_true (by first | (with_reducible assumption) | assumption)
                    have q162 : x9_1 < (l1.length : Int) := of_decide_eq_true (by first | (with_reducible assumption) | assumption)
                    obtain ⟨ad162, e162, hx162_0⟩ := Kd.at_bool HR1.out x9_1 p162 q162
                    (try rw [← Nbq13.out] at hx162_0)
                    cases e162
                    replace hx162_0 := (HB.out.cell (World.block_lt_of_cell? w _ hx162_0)).trans hx162_0
                    replace p162 := eq_true p162
                    replace q162 := eq_true q162
                    have hcz44_0 : wc.cell? ⟨gb160, 0, none⟩ = some (.int .i64 x161000_1) := (blk_cell BK160.out 0).trans rfl
                    have hcz44_1 : wc.cell? ⟨gb160, 1, none⟩ = some (.int .i64 x161001_1) := (blk_cell BK160.out 1).trans rfl
                    have hcz44_2 : wc.cell? ⟨gb160, 2, none⟩ = some (.int .i64 x161002_1) := (blk_cell BK160.out 2).trans rfl
                    have hcz44_3 : wc.cell? ⟨gb160, 3, none⟩ = some (.bool x161003_1) := (blk_cell BK160.out 3).trans rfl
                    have hfz44_0 := blk_frozen BK160.out 0
                    have hfz44_1 := blk_frozen BK160.out 1
                    have hfz44_2 := blk_frozen BK160.out 2
                    have hfz44_3 := blk_frozen BK160.out 3
                    go_wp2_with (first | ((with_reducible refine gate_callee (f := 16) rfl ?_); refine goesL_ (some 68) rfl rfl Try.func16 (by kernel_rfl) rfl #[.agg #[.int .i64 x161000_1, .int .i64 x161001_1, .int .i64 x161002_1, .bool x161003_1], .int .i64 (wrap64 (1 + (wrap64 (Int.tmod a0 9))))] rfl (by (try simp only [List.map_toArray, List.map_cons, List.map_nil]); first | done | rfl | (simp only [List.length_drop, List.length_take]; rfl)) ?_; (with_reducible refine (hand_Close.calls kj6 x161000_1 x161001_1 x161002_1 x161003_1 (wrap64 (1 + (wrap64 (Int.tmod a0 9)))) t170 t171 t172 t173 t174 _ A37.out).mono ?_); rintro e w45 ⟨rfl, hb⟩; refine ⟨_, rfl, ?_⟩; have n0_ := Aside0.mk (blk_below (g := gb160) (o := .cells #[.int .i64 x161000_1, .int .i64 x161001_1, .int .i64 x161002_1, .bool x161003_1] 23 (0, 0)) (by (with_reducible repeat (first | refine blk_drewN ?_ _ | refine blk_drew ?_ | refine blk_alloc ?_ _)); exact BK160.out) hb); have n1_ := Aside0.mk (below_step (by repeat (first | (with_reducible first | exact HB.out | apply below_alloc | apply pw_below_drewN | apply below_drew1 | refine below_set ?_ GE160.out) | exact HB.out)) hb); clear BK160; clear HB; have BK160 := n0_; have HB := n1_; clear n0_ n1_; (try clear hb); (try clear hb2); (try clear hk); (try clear hi); have hcz46_0 : w45.cell? ⟨gb160, 0, none⟩ = some (.int .i64 x161000_1) := (blk_cell BK160.out 0).trans rfl; have hcz46_1 : w45.cell? ⟨gb160, 1, none⟩ = some (.int .i64 x161001_1) := (blk_cell BK160.out 1).trans rfl; have hcz46_2 : w45.cell? ⟨gb160, 2, none⟩ = some (.int .i64 x161002_1) := (blk_cell BK160.out 2).trans rfl; have hcz46_3 : w45.cell? ⟨gb160, 3, none⟩ = some (.bool x161003_1) := (blk_cell BK160.out 3).trans rfl; have hfz46_0 := blk_frozen BK160.out 0; have hfz46_1 := blk_frozen BK160.out 1; have hfz46_2 := blk_frozen BK160.out 2; have hfz46_3 := blk_frozen BK160.out 3))
                    go_roundg kj6
                    case measure => have := HK1.out; have := HJ6.out; omega
                    case rel => exact ⟨(t174), (x8_1), (wrap64 (x9_1 + 1)), (t170), (t171), (t172), (t173), (by first | rfl | (simp; done) | (simp [*]; done) | (congr 1; omega) | (simp; omega)), (by first | rfl | (simp; done) | (simp [*]; done) | (congr 1; omega) | (simp; omega)), (by first | rfl | (simp; done) | (simp [*]; done) | (congr 1; omega) | (simp; omega)), H', ⟨by have := HK1.out; have := HJ6.out; omega⟩, ⟨by (with_reducible repeat (first | refine blk_drewN ?_ _ | refine blk_drew ?_ | refine blk_alloc ?_ _)); refine blk_put (cs := #[.int .i64 t170, .int .i64 t171, .int .i64 t172, .bool x161003_1]) ?_ 3 _ rfl; (with_reducible repeat (first | refine blk_drewN ?_ _ | refine blk_drew ?_ | refine blk_alloc ?_ _)); refine blk_put (cs := #[.int .i64 t170, .int .i64 t171, .int .i64 x161002_1, .bool x161003_1]) ?_ 2 _ rfl; (with_reducible repeat (first | refine blk_drewN ?_ _ | refine blk_drew ?_ | refine blk_alloc ?_ _)); refine blk_put (cs := #[.int .i64 t170, .int .i64 x161001_1, .int .i64 x161002_1, .bool x161003_1]) ?_ 1 _ rfl; (with_reducible repeat (first | refine blk_drewN ?_ _ | refine blk_drew ?_ | refine blk_alloc ?_ _)); refine blk_put (cs := #[.int .i64 x161000_1, .int .i64 x161001_1, .int .i64 x161002_1, .bool x161003_1]) ?_ 0 _ rfl; (with_reducible repeat (first | refine blk_drewN ?_ _ | refine blk_drew ?_ | refine blk_alloc ?_ _)); exact BK160.out⟩, ⟨by repeat (first | (with_reducible first | exact HB.out | apply below_alloc | apply pw_below_drewN | apply below_drew1 | refine below_set ?_ GE160.out) | exact HB.out)⟩⟩
              · rw [if_neg c12] at H
                exact absurd H (by simp)
            · rw [if_neg c11] at H
              exact absurd H (by simp)
          · replace c10 := Bool.eq_false_iff.mpr c10
            subst c10
            have H1 : (if x7_1 = 0 then (if x8_1 ≤ (wrap64 (1 + (wrap64 (Int.tmod a0 9)))) then ((withylaw16_awake.f kj6).bind fun t161 => (some t161)) else (some false)) else (some false)) = some r := by rw [if_neg (show ¬ (false = true) by decide)] at H; exact H
            clear H
            have H := H1
            clear H1
            by_cases c47 : x7_1 = 0
            · rw [if_pos c47] at H
              have c47b0 : (x7_1 == 0) = true := beq_iff_eq.mpr c47
              have c47b1 : (x7_1 != 0) = false := bne_eq_false_iff_eq.mpr c47
              clear c47
              by_cases c48 : x8_1 ≤ (wrap64 (1 + (wrap64 (Int.tmod a0 9))))
              · rw [if_pos c48] at H
                have c48b0 : decide (x8_1 ≤ (wrap64 (1 + (wrap64 (Int.tmod a0 9))))) = true := decide_eq_true c48
                clear c48
                replace H := Option.bind_eq_some_iff.mp H
                obtain ⟨t161, A490, H⟩ := H
                replace H : (some t161) = some r := H
                have A49 := Aside0.mk A490
                clear A490
                obtain rfl := Option.some.inj H
                go_wp2_with (first | (go_at_call 11; (with_reducible refine (withylaw16_awake.calls kj6  t161 _ A49.out).mono ?_); rintro e w50 ⟨rfl, hb⟩; have n0_ := Aside0.mk (blk_below (g := gb160) (o := .cells #[.int .i64 x161000_1, .int .i64 x161001_1, .int .i64 x161002_1, .bool x161003_1] 23 (0, 0)) (by (with_reducible repeat (first | refine blk_drewN ?_ _ | refine blk_drew ?_ | refine blk_alloc ?_ _)); exact BK160.out) hb); have n1_ := Aside0.mk (below_step (by repeat (first | (with_reducible first | exact HB.out | apply below_alloc | apply pw_below_drewN | apply below_drew1 | refine below_set ?_ GE160.out) | exact HB.out)) hb); clear BK160; clear HB; have BK160 := n0_; have HB := n1_; clear n0_ n1_; (try clear hb); (try clear hb2); (try clear hk); (try clear hi)))
                go_ret
                exact ⟨by first | rfl | (simp [errW_none, errW_some] <;> rfl) | (simp [*, errW_none, errW_some] <;> rfl), by repeat (first | (with_reducible first | exact HB.out | apply below_alloc | apply pw_below_drewN | apply below_drew1 | refine below_set ?_ GE160.out) | exact HB.out)⟩
              · rw [if_neg c48] at H
                have c48b0 : decide (x8_1 ≤ (wrap64 (1 + (wrap64 (Int.tmod a0 9))))) = false := decide_eq_false c48
                clear c48
                exact absurd ((Option.some.inj H).trans HR_.out) (by simp)
            · rw [if_neg c47] at H
              have c47b0 : (x7_1 == 0) = false := beq_eq_false_iff_ne.mpr c47
              have c47b1 : (x7_1 != 0) = true := bne_iff_ne.mpr c47
              exact absurd ((Option.some.inj H).trans HR_.out) (by simp)
def withylaw16_HandOver.Pure : Prop := ∀ (a0 : Int) (l1 : List Bool), (Lit.int .u8 a0).wf = true → l1.length * 1 ≤ 140737488351232 → (∀ x_ ∈ l1, True) → ∃ k, withylaw16_HandOver.f k a0 l1 = some true

end Go.Proofs.Ytdjbpnpfgabdjaa.PHandOver
