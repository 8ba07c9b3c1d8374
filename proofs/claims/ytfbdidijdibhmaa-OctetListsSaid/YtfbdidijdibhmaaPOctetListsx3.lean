-- written by a widened copy of the print, a program of this session; Lean checks it.
import Derived.Test.YtfbdidijdibhmaaPOctetListsx0
import Derived.Test.YtfbdidijdibhmaaPOctetListsx1
import Derived.Test.YtfbdidijdibhmaaPOctetListsx2
namespace Go.Proofs.Ytfbdidijdibhmaa.POctetLists
open Go.RowKit Go.Proofs.YtfbdidijdibhmaaW.PrintWords Go.Proofs.YtfbdidijdibhmaaW.PrintLast Go.Proofs.YtfbdidijdibhmaaW.PrintMore
attribute [local go_sem] max2_int min2_int max_two min_two max_three min_three max_four min_four   -- for this text's walks alone
set_option linter.unusedVariables false
set_option linter.unusedSimpArgs false

/-! ### withylaw02_OctetLists: function 6 -/
mutual
def withylaw02_OctetLists.l0 : Nat → List (List Int) → List Int → Int → Int → Option (Bool)
  | 0, _, _, _, _ => none
  | k + 1, x0, x1, x5, x6 => if x6 < (x0.length : Int) then (withylaw02_OctetLists.j1 k x0 x1 x5 x6 (decide (x6 < 100))) else (withylaw02_OctetLists.j1 k x0 x1 x5 x6 false)
def withylaw02_OctetLists.j1 : Nat → List (List Int) → List Int → Int → Int → Bool → Option (Bool)
  | 0, _, _, _, _, _ => none
  | k + 1, x0, x1, x5, x6, x22 => if x22 = true then (if 0 ≤ x6 then (if x6 < (x0.length : Int) then (if ((rd_L1 x0 x6).length : Int) > (wrap64 (3000 - x5)) then ((withylaw02_awake.f k).bind fun t196 => (some t196)) else (withylaw02_OctetLists.l0 k x0 x1 (wrap64 (x5 + ((rd_L1 x0 x6).length : Int))) (wrap64 (x6 + 1)))) else (none)) else (none)) else (if (x0.length : Int) > 100 then (withylaw02_OctetLists.j2 k x0 x1 true) else (withylaw02_OctetLists.j2 k x0 x1 (decide ((x1.length : Int) > 3000))))
def withylaw02_OctetLists.j2 : Nat → List (List Int) → List Int → Bool → Option (Bool)
  | 0, _, _, _ => none
  | k + 1, x0, x1, x48 => if x48 = true then ((withylaw02_awake.f k).bind fun t198 => (some t198)) else ((some (([] : List Int) : List Int)).bind fun y199 => (if y199.length + x1.length < 140737488355328 then (withylaw02_OctetLists.l1 k x0 x1 (y199 ++ x1) 0) else (none)))
def withylaw02_OctetLists.l1 : Nat → List (List Int) → List Int → List Int → Int → Option (Bool)
  | 0, _, _, _, _ => none
  | k + 1, x0, x1, x7, x8 => if x8 < (x0.length : Int) then (if 0 ≤ x8 then ((octet_PutList.f k x7 (rd_L1 x0 x8)).bind fun bt206 => (if bt206.2 = 0 then (withylaw02_OctetLists.l1 k x0 x1 bt206.1 (wrap64 (x8 + 1))) else (some false))) else (none)) else (if (x7.length : Int) < (x1.length : Int) then (some false) else (if 0 ≤ (x1.length : Int) then (if (x1.length : Int) ≤ (x7.length : Int) then ((octet_New.f (x7.drop ((x1.length : Int) : Int).toNat)).bind fun bt214 => (withylaw02_OctetLists.l2 k x0 0 bt214.1 bt214.2)) else (none)) else (none)))
def withylaw02_OctetLists.l2 : Nat → List (List Int) → Int → List Int → Int → Option (Bool)
  | 0, _, _, _, _ => none
  | k + 1, x0, x12, x219000, x219001 => if x12 < (x0.length : Int) then ((octet_Scan_List.f k x219000 x219001).bind fun bt219 => (if 0 ≤ x12 then (if (strOfNums bt219.1).toList = (strOfNums (rd_L1 x0 x12)).toList then (withylaw02_OctetLists.l2 k x0 (wrap64 (x12 + 1)) bt219.2.1 bt219.2.2) else (some false)) else (none))) else ((octet_Scan_End.f x219000 x219001).bind fun t227 => (if t227 = 0 then ((withylaw02_awake.f k).bind fun t228 => (some t228)) else (some false)))
end
def withylaw02_OctetLists.f (k : Nat) (l0 : List (List Int)) (l1 : List Int) : Option (Bool) := withylaw02_OctetLists.l0 k l0 l1 (l1.length : Int) 0
theorem withylaw02_OctetLists.mono_l : ∀ k, (∀ y0 y1 y2 y3, LeO (withylaw02_OctetLists.l0 k y0 y1 y2 y3) (withylaw02_OctetLists.l0 (k + 1) y0 y1 y2 y3)) ∧ (∀ y0 y1 y2 y3 y4, LeO (withylaw02_OctetLists.j1 k y0 y1 y2 y3 y4) (withylaw02_OctetLists.j1 (k + 1) y0 y1 y2 y3 y4)) ∧ (∀ y0 y1 y2, LeO (withylaw02_OctetLists.j2 k y0 y1 y2) (withylaw02_OctetLists.j2 (k + 1) y0 y1 y2)) ∧ (∀ y0 y1 y2 y3, LeO (withylaw02_OctetLists.l1 k y0 y1 y2 y3) (withylaw02_OctetLists.l1 (k + 1) y0 y1 y2 y3)) ∧ (∀ y0 y1 y2 y3, LeO (withylaw02_OctetLists.l2 k y0 y1 y2 y3) (withylaw02_OctetLists.l2 (k + 1) y0 y1 y2 y3))
  | 0 => ⟨fun _ _ _ _ r h => by simp [withylaw02_OctetLists.l0] at h, fun _ _ _ _ _ r h => by simp [withylaw02_OctetLists.j1] at h, fun _ _ _ r h => by simp [withylaw02_OctetLists.j2] at h, fun _ _ _ _ r h => by simp [withylaw02_OctetLists.l1] at h, fun _ _ _ _ r h => by simp [withylaw02_OctetLists.l2] at h⟩
  | k + 1 => by
    obtain ⟨ih0, ih1, ih2, ih3, ih4⟩ := withylaw02_OctetLists.mono_l k
    refine ⟨?_, ?_, ?_, ?_, ?_⟩
    · intro y0 y1 y2 y3
      unfold withylaw02_OctetLists.l0
      repeat' first
      | (with_reducible exact ih0 _ _ _ _)
      | (with_reducible exact ih1 _ _ _ _ _)
      | (with_reducible exact ih2 _ _ _)
      | (with_reducible exact ih3 _ _ _ _)
      | (with_reducible exact ih4 _ _ _ _)
      | (with_reducible exact octet_PutList.mono _ _ _)
      | (with_reducible exact octet_Scan_List.mono _ _ _)
      | (with_reducible exact withylaw02_awake.mono _)
      | (with_reducible exact LeO.refl _)
      | (with_reducible exact LeO.none _)
      | (with_reducible refine LeO.ite ?_ ?_)
      | (with_reducible refine LeO.bind ?_ (fun _ => ?_))
      | exact ih0 _ _ _ _
      | exact ih1 _ _ _ _ _
      | exact ih2 _ _ _
      | exact ih3 _ _ _ _
      | exact ih4 _ _ _ _
      | exact octet_PutList.mono _ _ _
      | exact octet_Scan_List.mono _ _ _
      | exact withylaw02_awake.mono _
      | exact LeO.none _
      | refine LeO.ite ?_ ?_
      | refine LeO.bind ?_ (fun _ => ?_)
    · intro y0 y1 y2 y3 y4
      unfold withylaw02_OctetLists.j1
      repeat' first
      | (with_reducible exact ih0 _ _ _ _)
      | (with_reducible exact ih1 _ _ _ _ _)
      | (with_reducible exact ih2 _ _ _)
      | (with_reducible exact ih3 _ _ _ _)
      | (with_reducible exact ih4 _ _ _ _)
      | (with_reducible exact octet_PutList.mono _ _ _)
      | (with_reducible exact octet_Scan_List.mono _ _ _)
      | (with_reducible exact withylaw02_awake.mono _)
      | (with_reducible exact LeO.refl _)
      | (with_reducible exact LeO.none _)
      | (with_reducible refine LeO.ite ?_ ?_)
      | (with_reducible refine LeO.bind ?_ (fun _ => ?_))
      | exact ih0 _ _ _ _
      | exact ih1 _ _ _ _ _
      | exact ih2 _ _ _
      | exact ih3 _ _ _ _
      | exact ih4 _ _ _ _
      | exact octet_PutList.mono _ _ _
      | exact octet_Scan_List.mono _ _ _
      | exact withylaw02_awake.mono _
      | exact LeO.none _
      | refine LeO.ite ?_ ?_
      | refine LeO.bind ?_ (fun _ => ?_)
    · intro y0 y1 y2
      unfold withylaw02_OctetLists.j2
      repeat' first
      | (with_reducible exact ih0 _ _ _ _)
      | (with_reducible exact ih1 _ _ _ _ _)
      | (with_reducible exact ih2 _ _ _)
      | (with_reducible exact ih3 _ _ _ _)
      | (with_reducible exact ih4 _ _ _ _)
      | (with_reducible exact octet_PutList.mono _ _ _)
      | (with_reducible exact octet_Scan_List.mono _ _ _)
      | (with_reducible exact withylaw02_awake.mono _)
      | (with_reducible exact LeO.refl _)
      | (with_reducible exact LeO.none _)
      | (with_reducible refine LeO.ite ?_ ?_)
      | (with_reducible refine LeO.bind ?_ (fun _ => ?_))
      | exact ih0 _ _ _ _
      | exact ih1 _ _ _ _ _
      | exact ih2 _ _ _
      | exact ih3 _ _ _ _
      | exact ih4 _ _ _ _
      | exact octet_PutList.mono _ _ _
      | exact octet_Scan_List.mono _ _ _
      | exact withylaw02_awake.mono _
      | exact LeO.none _
      | refine LeO.ite ?_ ?_
      | refine LeO.bind ?_ (fun _ => ?_)
    · intro y0 y1 y2 y3
      unfold withylaw02_OctetLists.l1
      repeat' first
      | (with_reducible exact ih0 _ _ _ _)
      | (with_reducible exact ih1 _ _ _ _ _)
      | (with_reducible exact ih2 _ _ _)
      | (with_reducible exact ih3 _ _ _ _)
      | (with_reducible exact ih4 _ _ _ _)
      | (with_reducible exact octet_PutList.mono _ _ _)
      | (with_reducible exact octet_Scan_List.mono _ _ _)
      | (with_reducible exact withylaw02_awake.mono _)
      | (with_reducible exact LeO.refl _)
      | (with_reducible exact LeO.none _)
      | (with_reducible refine LeO.ite ?_ ?_)
      | (with_reducible refine LeO.bind ?_ (fun _ => ?_))
      | exact ih0 _ _ _ _
      | exact ih1 _ _ _ _ _
      | exact ih2 _ _ _
      | exact ih3 _ _ _ _
      | exact ih4 _ _ _ _
      | exact octet_PutList.mono _ _ _
      | exact octet_Scan_List.mono _ _ _
      | exact withylaw02_awake.mono _
      | exact LeO.none _
      | refine LeO.ite ?_ ?_
      | refine LeO.bind ?_ (fun _ => ?_)
    · intro y0 y1 y2 y3
      unfold withylaw02_OctetLists.l2
      repeat' first
      | (with_reducible exact ih0 _ _ _ _)
      | (with_reducible exact ih1 _ _ _ _ _)
      | (with_reducible exact ih2 _ _ _)
      | (with_reducible exact ih3 _ _ _ _)
      | (with_reducible exact ih4 _ _ _ _)
      | (with_reducible exact octet_PutList.mono _ _ _)
      | (with_reducible exact octet_Scan_List.mono _ _ _)
      | (with_reducible exact withylaw02_awake.mono _)
      | (with_reducible exact LeO.refl _)
      | (with_reducible exact LeO.none _)
      | (with_reducible refine LeO.ite ?_ ?_)
      | (with_reducible refine LeO.bind ?_ (fun _ => ?_))
      | exact ih0 _ _ _ _
      | exact ih1 _ _ _ _ _
      | exact ih2 _ _ _
      | exact ih3 _ _ _ _
      | exact ih4 _ _ _ _
      | exact octet_PutList.mono _ _ _
      | exact octet_Scan_List.mono _ _ _
      | exact withylaw02_awake.mono _
      | exact LeO.none _
      | refine LeO.ite ?_ ?_
      | refine LeO.bind ?_ (fun _ => ?_)
theorem withylaw02_OctetLists.mono : ∀ a0 a1 k, LeO (withylaw02_OctetLists.f k a0 a1) (withylaw02_OctetLists.f (k + 1) a0 a1) := by
  intro a0 a1 k
  obtain ⟨ih0, ih1, ih2, ih3, ih4⟩ := withylaw02_OctetLists.mono_l k
  unfold withylaw02_OctetLists.f
  repeat' first
      | (with_reducible exact ih0 _ _ _ _)
      | (with_reducible exact ih1 _ _ _ _ _)
      | (with_reducible exact ih2 _ _ _)
      | (with_reducible exact ih3 _ _ _ _)
      | (with_reducible exact ih4 _ _ _ _)
      | (with_reducible exact octet_PutList.mono _ _ _)
      | (with_reducible exact octet_Scan_List.mono _ _ _)
      | (with_reducible exact withylaw02_awake.mono _)
      | (with_reducible exact LeO.refl _)
      | (with_reducible exact LeO.none _)
      | (with_reducible refine LeO.ite ?_ ?_)
      | (with_reducible refine LeO.bind ?_ (fun _ => ?_))
      | exact ih0 _ _ _ _
      | exact ih1 _ _ _ _ _
      | exact ih2 _ _ _
      | exact ih3 _ _ _ _
      | exact ih4 _ _ _ _
      | exact octet_PutList.mono _ _ _
      | exact octet_Scan_List.mono _ _ _
      | exact withylaw02_awake.mono _
      | exact LeO.none _
      | refine LeO.ite ?_ ?_
      | refine LeO.bind ?_ (fun _ => ?_)
def withylaw02_OctetLists.T26 : Bool × List (List Nat × List Nat) := (true, [([], []), ([0], [0]), ([1], [1]), ([], []), ([], []), ([3, 4], [3, 4]), ([5], [5]), ([6], [6]), ([2, 7], [2, 7])])
def withylaw02_OctetLists.B26 : List Nat := [0, 1, 3, 0, 0, 24, 56, 120, 255]
theorem withylaw02_OctetLists.tab26 : rtab .any (opsOf Try.f6 26) = withylaw02_OctetLists.T26 := by kernel_rfl
theorem withylaw02_OctetLists.bits26 : waitsOk withylaw02_OctetLists.T26.2 withylaw02_OctetLists.B26 = true := by kernel_rfl
set_option maxHeartbeats 8000000 in
set_option maxRecDepth 100000 in
theorem withylaw02_OctetLists.calls (k : Nat) (A0 : Option Addr) (c0 : Nat) (l0 : List (List Int)) (A1 : Option Addr) (c1 : Nat) (l1 : List Int) (r : Bool) (w : World) (hr0 : Kd.C (Kd.slice 5 (Kd.int .u8)) w A0 l0.length l0) (hc0 : l0.length ≤ c0) (hr1 : Kd.C (Kd.int .u8) w A1 l1.length l1) (hc1 : l1.length ≤ c1) (h : withylaw02_OctetLists.f k l0 l1 = some r) (hr_ : r = true) :
    Calls Try.prog 6 #[.slice A0 l0.length c0, .slice A1 l1.length c1] w fun e w' => e = .returned (.bool r) ∧ Below w.heap.size w w' := by
  have HR0 := Aside0.mk hr0
  have HC0 := Aside0.mk hc0
  clear hr0 hc0
  have HR1 := Aside0.mk hr1
  have HC1 := Aside0.mk hc1
  clear hr1 hc1
  have HB := Aside0.mk (Below.refl w.heap.size w)
  have H : (withylaw02_OctetLists.l0 k l0 l1 (l1.length : Int) 0) = some r := h
  clear h
  have HR_ := Aside0.mk hr_
  clear hr_
  have H' := Aside0.mk H
  clear H
  go_enter Try.func6, Try.ntmps6
  go_wp2
  go_loopg [5, 6] k (fun kq v5 v6 w' => ∃ (x5_1 : Int) (x6_1 : Int), v5 = .int .i64 x5_1 ∧ v6 = .int .i64 x6_1 ∧ Aside0 (withylaw02_OctetLists.l0 kq l0 l1 x5_1 x6_1 = some r) ∧ Aside0 (kq ≤ k) ∧ Aside0 (Below w.heap.size w w'))
  case atStart => exact ⟨((l1.length : Int)), (0), (by first | rfl | (simp; done) | (simp [*]; done) | (congr 1; omega) | (simp; omega)), (by first | rfl | (simp; done) | (simp [*]; done) | (congr 1; omega) | (simp; omega)), H', ⟨Nat.le_refl _⟩, ⟨by repeat (first | (with_reducible first | exact HB.out | apply below_alloc | apply pw_below_drewN | apply below_drew1) | exact HB.out)⟩⟩
  case round =>
    clear H'
    try clear c1
    try clear p2
    obtain ⟨x5_1, x6_1, rfl, rfl, HA, HK1, HB⟩ := hrel
    cases gk with
    | zero => exact absurd HA.out (by simp [withylaw02_OctetLists.l0])
    | succ k1 =>
      have H := HA.out
      clear HA
      simp only [withylaw02_OctetLists.l0] at H
      have HC3 := Aside0.mk H
      clear H
      go_upto_region 3 with (fail)
      go_cut [22] (fun v22 wc => ∃ (kq : Nat) (x22_2 : Bool), v22 = .bool x22_2 ∧ Aside0 (withylaw02_OctetLists.j1 kq l0 l1 x5_1 x6_1 x22_2 = some r) ∧ Aside0 (kq ≤ k1) ∧ Aside0 (Below w.heap.size w wc))
      case first =>
        have H := HC3.out
        clear HC3
        by_cases c4 : x6_1 < (l0.length : Int)
        · rw [if_pos c4] at H
          have c4b0 : decide (x6_1 < (l0.length : Int)) = true := decide_eq_true c4
          clear c4
          (first | rw [c4b0] | (simp only [i64_w, i32_w]; rw [c4b0]) | skip)
          have H' := Aside0.mk H
          clear H
          go_wp2
          go_meet
          case rel => exact ⟨_, (decide (x6_1 < 100)), (by first | rfl | (simp; done) | (simp [*]; done) | (congr 1; omega) | (simp; omega)), H', ⟨by have := HK1.out; first | omega | exact Nat.le_refl _⟩, ⟨by repeat (first | (with_reducible first | exact HB.out | apply below_alloc | apply pw_below_drewN | apply below_drew1) | exact HB.out)⟩⟩
        · rw [if_neg c4] at H
          have c4b0 : decide (x6_1 < (l0.length : Int)) = false := decide_eq_false c4
          clear c4
          (first | rw [c4b0] | (simp only [i64_w, i32_w]; rw [c4b0]) | skip)
          have H' := Aside0.mk H
          clear H
          go_wp2
          go_meet
          case rel => exact ⟨_, (false), (by first | rfl | (simp; done) | (simp [*]; done) | (congr 1; omega) | (simp; omega)), H', ⟨by have := HK1.out; first | omega | exact Nat.le_refl _⟩, ⟨by repeat (first | (with_reducible first | exact HB.out | apply below_alloc | apply pw_below_drewN | apply below_drew1) | exact HB.out)⟩⟩
      case rest =>
        clear HC3
        try clear c1
        try clear p2
        try clear c4
        try clear c4b0
        try clear p2
        obtain ⟨kq, x22_2, rfl, HA, HJ2, HB⟩ := hcut
        cases kq with
        | zero => exact absurd HA.out (by simp [withylaw02_OctetLists.j1])
        | succ kj2 =>
          have H := HA.out
          clear HA
          simp only [withylaw02_OctetLists.j1] at H
          by_cases c5 : x22_2 = true
          · subst c5
            have H1 : (if 0 ≤ x6_1 then (if x6_1 < (l0.length : Int) then (if ((rd_L1 l0 x6_1).length : Int) > (wrap64 (3000 - x5_1)) then ((withylaw02_awake.f kj2).bind fun t196 => (some t196)) else (withylaw02_OctetLists.l0 kj2 l0 l1 (wrap64 (x5_1 + ((rd_L1 l0 x6_1).length : Int))) (wrap64 (x6_1 + 1)))) else (none)) else (none)) = some r := by rw [if_pos rfl] at H; exact H
            clear H
            have H := H1
            clear H1
            by_cases c6 : 0 ≤ x6_1
            · rw [if_pos c6] at H
              have c6b0 : decide (0 ≤ x6_1) = true := decide_eq_true c6
              clear c6
              by_cases c7 : x6_1 < (l0.length : Int)
              · rw [if_pos c7] at H
                have c7b0 : decide (x6_1 < (l0.length : Int)) = true := decide_eq_true c7
                clear c7
                by_cases c8 : ((rd_L1 l0 x6_1).length : Int) > (wrap64 (3000 - x5_1))
                · rw [if_pos c8] at H
                  have c8b0 : decide ((wrap64 (3000 - x5_1)) < ((rd_L1 l0 x6_1).length : Int)) = true := decide_eq_true c8
                  clear c8
                  replace H := Option.bind_eq_some_iff.mp H
                  obtain ⟨t196, A90, H⟩ := H
                  replace H : (some t196) = some r := H
                  have A9 := Aside0.mk A90
                  clear A90
                  obtain rfl := Option.some.inj H
                  have p195 : 0 ≤ (x6_1 : Int) := of_decide_eq_true (by first | (with_reducible assumption) | assumption)
                  have q195 : x6_1 < (l0.length : Int) := of_decide_eq_true (by first | (with_reducible assumption) | assumption)
                  obtain ⟨ad195, A195_0, c195_0, e195, hx195_0, hl195_0, hi195_0⟩ := at_L1 HR0.out x6_1 p195 q195
                  cases e195
                  replace hx195_0 := (HB.out.cell (World.block_lt_of_cell? w _ hx195_0)).trans hx195_0
                  have HR195_0 := Aside0.mk hi195_0
                  have HC195_0 := Aside0.mk hl195_0
                  clear hi195_0 hl195_0
                  replace p195 := eq_true p195
                  replace q195 := eq_true q195
                  go_wp2_with (first | ((with_reducible refine gate_callee (f := 12) rfl ?_); refine goesL_ (some 33) rfl rfl Try.func12 (by kernel_rfl) rfl #[] rfl (by (try simp only [List.map_toArray, List.map_cons, List.map_nil]); first | done | rfl | (simp only [List.length_drop, List.length_take]; rfl)) ?_; (with_reducible refine (withylaw02_awake.calls kj2  t196 _ A9.out).mono ?_); rintro e w10 ⟨rfl, hb⟩; refine ⟨_, rfl, ?_⟩; have n0_ := Aside0.mk (below_step (by repeat (first | (with_reducible first | exact HB.out | apply below_alloc | apply pw_below_drewN | apply below_drew1) | exact HB.out)) hb); clear HB; have HB := n0_; clear n0_; (try clear hb); (try clear hb2); (try clear hk); (try clear hi)))
                  go_ret
                  exact ⟨by first | rfl | (simp [errW_none, errW_some] <;> rfl) | (simp [*, errW_none, errW_some] <;> rfl), by repeat (first | (with_reducible first | exact HB.out | apply below_alloc | apply pw_below_drewN | apply below_drew1) | exact HB.out)⟩
                · rw [if_neg c8] at H
                  have c8b0 : decide ((wrap64 (3000 - x5_1)) < ((rd_L1 l0 x6_1).length : Int)) = false := decide_eq_false c8
                  clear c8
                  have H' := Aside0.mk H
                  clear H
                  have p195 : 0 ≤ (x6_1 : Int) := of_decide_eq_true (by first | (with_reducible assumption) | assumption)
                  have q195 : x6_1 < (l0.length : Int) := of_decide_eq_true (by first | (with_reducible assumption) | assumption)
                  obtain ⟨ad195, A195_0, c195_0, e195, hx195_0, hl195_0, hi195_0⟩ := at_L1 HR0.out x6_1 p195 q195
                  cases e195
                  replace hx195_0 := (HB.out.cell (World.block_lt_of_cell? w _ hx195_0)).trans hx195_0
                  have HR195_0 := Aside0.mk hi195_0
                  have HC195_0 := Aside0.mk hl195_0
                  clear hi195_0 hl195_0
                  replace p195 := eq_true p195
                  replace q195 := eq_true q195
                  have p197 : 0 ≤ (x6_1 : Int) := of_decide_eq_true (by first | (with_reducible assumption) | assumption)
                  have q197 : x6_1 < (l0.length : Int) := of_decide_eq_true (by first | (with_reducible assumption) | assumption)
                  obtain ⟨ad197, A197_0, c197_0, e197, hx197_0, hl197_0, hi197_0⟩ := at_L1 HR0.out x6_1 p197 q197
                  obtain rfl : ad195 = ad197 := (by injection e197)
                  replace hx197_0 := (HB.out.cell (World.block_lt_of_cell? w _ hx197_0)).trans hx197_0
                  have HR197_0 := Aside0.mk hi197_0
                  have HC197_0 := Aside0.mk hl197_0
                  clear hi197_0 hl197_0
                  replace p197 := eq_true p197
                  replace q197 := eq_true q197
                  have ea_ := Option.some.inj (hx195_0.symm.trans hx197_0)
                  injection ea_ with ea_ en_ ec_
                  subst ea_
                  subst ec_
                  clear en_
                  go_wp2
                  go_roundg kj2
                  case measure => have := HK1.out; have := HJ2.out; omega
                  case rel => exact ⟨(wrap64 (x5_1 + ((rd_L1 l0 x6_1).length : Int))), (wrap64 (x6_1 + 1)), (by first | rfl | (simp; done) | (simp [*]; done) | (congr 1; omega) | (simp; omega)), (by first | rfl | (simp; done) | (simp [*]; done) | (congr 1; omega) | (simp; omega)), H', ⟨by have := HK1.out; have := HJ2.out; omega⟩, ⟨by repeat (first | (with_reducible first | exact HB.out | apply below_alloc | apply pw_below_drewN | apply below_drew1) | exact HB.out)⟩⟩
              · rw [if_neg c7] at H
                exact absurd H (by simp)
            · rw [if_neg c6] at H
              exact absurd H (by simp)
          · replace c5 := Bool.eq_false_iff.mpr c5
            subst c5
            have H1 : (if (l0.length : Int) > 100 then (withylaw02_OctetLists.j2 kj2 l0 l1 true) else (withylaw02_OctetLists.j2 kj2 l0 l1 (decide ((l1.length : Int) > 3000)))) = some r := by rw [if_neg (show ¬ (false = true) by decide)] at H; exact H
            clear H
            have H := H1
            clear H1
            have HC11 := Aside0.mk H
            clear H
            go_upto_region 8 with (fail)
            go_cut [48] (fun v48 wc => ∃ (kq : Nat) (x48_10 : Bool), v48 = .bool x48_10 ∧ Aside0 (withylaw02_OctetLists.j2 kq l0 l1 x48_10 = some r) ∧ Aside0 (kq ≤ kj2) ∧ Aside0 (Below w.heap.size w wc))
            case first =>
              have H := HC11.out
              clear HC11
              by_cases c12 : (l0.length : Int) > 100
              · rw [if_pos c12] at H
                have c12b0 : decide (100 < (l0.length : Int)) = true := decide_eq_true c12
                have c12b1 : decide (100 < l0.length) = true := decide_eq_true (by omega)
                clear c12
                (first | rw [c12b0] | (simp only [i64_w, i32_w]; rw [c12b0]) | skip)
                have H' := Aside0.mk H
                clear H
                go_wp2
                go_meet
                case rel => exact ⟨_, (true), (by first | rfl | (simp; done) | (simp [*]; done) | (congr 1; omega) | (simp; omega)), H', ⟨by have := HK1.out; have := HJ2.out; first | omega | exact Nat.le_refl _⟩, ⟨by repeat (first | (with_reducible first | exact HB.out | apply below_alloc | apply pw_below_drewN | apply below_drew1) | exact HB.out)⟩⟩
              · rw [if_neg c12] at H
                have c12b0 : decide (100 < (l0.length : Int)) = false := decide_eq_false c12
                have c12b1 : decide (100 < l0.length) = false := decide_eq_false (by omega)
                clear c12
                (first | rw [c12b0] | (simp only [i64_w, i32_w]; rw [c12b0]) | skip)
                have H' := Aside0.mk H
                clear H
                go_wp2
                go_meet
                case rel => exact ⟨_, (decide ((l1.length : Int) > 3000)), (by first | rfl | (simp; done) | (simp [*]; done) | (congr 1; omega) | (simp; omega)), H', ⟨by have := HK1.out; have := HJ2.out; first | omega | exact Nat.le_refl _⟩, ⟨by repeat (first | (with_reducible first | exact HB.out | apply below_alloc | apply pw_below_drewN | apply below_drew1) | exact HB.out)⟩⟩
            case rest =>
              clear HC11
              try clear c1
              try clear p1
              try clear q1
              try clear hx1
              try clear p2
              try clear c4
              try clear c4b0
              try clear c5
              try clear c6
              try clear c6b0
              try clear p6
              try clear c7
              try clear c7b0
              try clear c8
              try clear c8b0
              try clear c12
              try clear c12b0
              try clear c12b1
              try clear hx195_0
              try clear hx197_0
              try clear p195
              try clear p197
              try clear p2
              try clear q195
              try clear q197
              obtain ⟨kq, x48_10, rfl, HA, HJ10, HB⟩ := hcut
              cases kq with
              | zero => exact absurd HA.out (by simp [withylaw02_OctetLists.j2])
              | succ kj10 =>
                have H := HA.out
                clear HA
                simp only [withylaw02_OctetLists.j2] at H
                by_cases c13 : x48_10 = true
                · subst c13
                  have H1 : ((withylaw02_awake.f kj10).bind fun t198 => (some t198)) = some r := by rw [if_pos rfl] at H; exact H
                  clear H
                  have H := H1
                  clear H1
                  replace H := Option.bind_eq_some_iff.mp H
                  obtain ⟨t198, A140, H⟩ := H
                  replace H : (some t198) = some r := H
                  have A14 := Aside0.mk A140
                  clear A140
                  obtain rfl := Option.some.inj H
                  go_wp2_with (first | ((with_reducible refine gate_callee (f := 12) rfl ?_); refine goesL_ (some 49) rfl rfl Try.func12 (by kernel_rfl) rfl #[] rfl (by (try simp only [List.map_toArray, List.map_cons, List.map_nil]); first | done | rfl | (simp only [List.length_drop, List.length_take]; rfl)) ?_; (with_reducible refine (withylaw02_awake.calls kj10  t198 _ A14.out).mono ?_); rintro e w15 ⟨rfl, hb⟩; refine ⟨_, rfl, ?_⟩; have n0_ := Aside0.mk (below_step (by repeat (first | (with_reducible first | exact HB.out | apply below_alloc | apply pw_below_drewN | apply below_drew1) | exact HB.out)) hb); clear HB; have HB := n0_; clear n0_; (try clear hb); (try clear hb2); (try clear hk); (try clear hi)))
                  go_ret
                  exact ⟨by first | rfl | (simp [errW_none, errW_some] <;> rfl) | (simp [*, errW_none, errW_some] <;> rfl), by repeat (first | (with_reducible first | exact HB.out | apply below_alloc | apply pw_below_drewN | apply below_drew1) | exact HB.out)⟩
                · replace c13 := Bool.eq_false_iff.mpr c13
                  subst c13
                  have H1 : ((some (([] : List Int) : List Int)).bind fun y199 => (if y199.length + l1.length < 140737488355328 then (withylaw02_OctetLists.l1 kj10 l0 l1 (y199 ++ l1) 0) else (none))) = some r := by rw [if_neg (show ¬ (false = true) by decide)] at H; exact H
                  clear H
                  have H := H1
                  clear H1
                  obtain ⟨y199, hy199⟩ : ∃ y_ : List Int, y_ = (([] : List Int)) := ⟨_, rfl⟩
                  replace H : (if y199.length + l1.length < 140737488355328 then (withylaw02_OctetLists.l1 kj10 l0 l1 (y199 ++ l1) 0) else (none)) = some r := by first | (rw [hy199]; with_reducible exact H) | (have H2_ := (Option.bind_some _ _).symm.trans H; rw [hy199]; with_reducible exact H2_) | (have H2_ := (Option.bind_some _ _).symm.trans H; with_reducible exact H2_) | with_reducible exact H | (rw [hy199]; exact H) | exact H
                  have Ny199 := Aside0.mk hy199
                  clear hy199
                  by_cases c16 : y199.length + l1.length < 140737488355328
                  · rw [if_pos c16] at H
                    have LMc16 := Aside0.mk c16
                    clear c16
                    obtain ⟨y202, hy202⟩ : ∃ y_ : List Int, y_ = (y199 ++ l1) := ⟨_, rfl⟩
                    replace H : (withylaw02_OctetLists.l1 kj10 l0 l1 y202 0) = some r := by first | (rw [hy202]; with_reducible exact H) | (have H2_ := (Option.bind_some _ _).symm.trans H; rw [hy202]; with_reducible exact H2_) | (have H2_ := (Option.bind_some _ _).symm.trans H; with_reducible exact H2_) | with_reducible exact H | (rw [hy202]; exact H) | exact H
                    have Ny202 := Aside0.mk hy202
                    clear hy202
                    have H' := Aside0.mk H
                    clear H
                    go_wp2_with (first | ((with_reducible refine gate_dst (N := 50) rfl ?_); (try (refine gate_guard (by rfl) ?_; dsimp only)); refine Kd.R_lit (Kd.int .u8) _ 5 ?hg (N := 50) ?hd (xs := ([] : List Int)) (inner := []) (ok := fun _ => True) (okp := fun _ => True) ?hr ?hp (fun _ hk => hk) trivial (Below.refl _ _) (Nat.le_refl _) (by simp) ?_; (case hd => rfl); (case hg => rfl); (case hr => first | (go_simp; done) | (go_simp; rfl)); (case hp => exact (Reps.none _ _)); intro v200 w17 ho18 hb hg_ hnew_; clear hg_ hnew_; (first | rw [← Ny199.out] at ho18 | (simp only [Int.reduceToNat] at ho18; rw [← Ny199.out] at ho18)); have n0_ := Aside0.mk (Kd.R_lower ho18 (below_size (by repeat (first | (with_reducible first | exact HB.out | apply below_alloc | apply pw_below_drewN | apply below_drew1) | exact HB.out)))); have n1_ := Aside0.mk (below_step (by repeat (first | (with_reducible first | exact HB.out | apply below_alloc | apply pw_below_drewN | apply below_drew1) | exact HB.out)) hb); clear HB; have HO201 := n0_; have HB := n1_; clear n0_ n1_; clear hb ho18) | ((with_reducible refine gate_builtin (b := .append) (xs := #[.tmp 50, .tmp 51]) rfl ?_); (try (refine gate_guard (by rfl) ?_; dsimp only)); at_builtin; refine Kd.R_append_rows (Kd.int .u8) (w0 := w) w.heap.size rfl (.tmp 50) (.tmp 51) 24 5 (.int .u8 0) 1 rfl Try.underlying24 info5 rfl (by decide) (by omega) v200 y199 l1 _ _ _ (fun _ => True) (fun _ => False) rfl rfl ?aO ?aR (fun _ _ h => h) (fun _ h => h.elim) ?aF ?aB ?aS ?aL ?_; (case aR => repeat (first | exact (Kd.C_below HR1.out HB.out) | (with_reducible refine Kd.C_alloc ?_ _) | (with_reducible refine Kd.C_drewN ?_ _) | (with_reducible refine Kd.C_drew ?_))); (case aB => exact (by repeat (first | (with_reducible first | exact HB.out | apply below_alloc | apply pw_below_drewN | apply below_drew1) | exact HB.out))); (case aF => exact (fun _ _ => trivial)); (case aO => exact (by (with_reducible repeat (first | apply Kd.R_alloc | apply Kd.R_drewN | apply Kd.R_drew)); exact HO201.out)); (case aS => exact (below_size (by repeat (first | (with_reducible first | exact HB.out | apply below_alloc | apply pw_below_drewN | apply below_drew1) | exact HB.out)))); (case aL => have := LMc16.out; omega); intro v203 w19 ho hb hg hat; rw [← Ny202.out] at ho; have n0_ := Aside0.mk (hb); have n1_ := Aside0.mk (ho); clear HB; clear HO201; have HB := n0_; have HO204 := n1_; clear n0_ n1_; clear ho hb hg hat))
                    go_loopg [7, 8] kj10 (fun kq v7 v8 w' => ∃ (x7_4 : List Int) (x8_4 : Int), v8 = .int .i64 x8_4 ∧ Aside0 (withylaw02_OctetLists.l1 kq l0 l1 x7_4 x8_4 = some r) ∧ Aside0 (kq ≤ kj10) ∧ Aside0 (Kd.R (Kd.int .u8) 5 w' w.heap.size (fun _ => True) v7 x7_4) ∧ Aside0 (Below w.heap.size w w'))
                    case atStart => exact ⟨(y202), (0), (by first | rfl | (simp; done) | (simp [*]; done) | (congr 1; omega) | (simp; omega)), H', ⟨Nat.le_refl _⟩, ⟨by (with_reducible repeat (first | apply Kd.R_alloc | apply Kd.R_drewN | apply Kd.R_drew)); exact HO204.out⟩, ⟨by repeat (first | (with_reducible first | exact HB.out | apply below_alloc | apply pw_below_drewN | apply below_drew1) | exact HB.out)⟩⟩
                    case round =>
                      clear H'
                      try clear c1
                      try clear p1
                      try clear q1
                      try clear hx1
                      try clear p2
                      try clear c4
                      try clear c4b0
                      try clear c5
                      try clear c6
                      try clear c6b0
                      try clear p6
                      try clear c7
                      try clear c7b0
                      try clear c8
                      try clear c8b0
                      try clear c12
                      try clear c12b0
                      try clear c12b1
                      try clear c13
                      try clear c16
                      try clear c19
                      try clear p19
                      try clear q19
                      try clear hx19
                      try clear hx195_0
                      try clear hx197_0
                      try clear p1
                      try clear p195
                      try clear p197
                      try clear p2
                      try clear p6
                      try clear q1
                      try clear q195
                      try clear q197
                      obtain ⟨x7_4, x8_4, rfl, HA, HK4, HO_7, HB⟩ := hrel
                      cases gk with
                      | zero => exact absurd HA.out (by simp [withylaw02_OctetLists.l1])
                      | succ k4 =>
                        have H := HA.out
                        clear HA
                        simp only [withylaw02_OctetLists.l1] at H
                        by_cases c20 : x8_4 < (l0.length : Int)
                        · rw [if_pos c20] at H
                          have c20b0 : decide (x8_4 < (l0.length : Int)) = true := decide_eq_true c20
                          clear c20
                          by_cases c21 : 0 ≤ x8_4
                          · rw [if_pos c21] at H
                            have c21b0 : decide (0 ≤ x8_4) = true := decide_eq_true c21
                            clear c21
                            replace H := Option.bind_eq_some_iff.mp H
                            obtain ⟨⟨t206, t207⟩, A220, H⟩ := H
                            replace H : (if t207 = 0 then (withylaw02_OctetLists.l1 k4 l0 l1 t206 (wrap64 (x8_4 + 1))) else (some false)) = some r := H
                            have A22 := Aside0.mk A220
                            clear A220
                            by_cases c23 : t207 = 0
                            · rw [if_pos c23] at H
                              have c23b0 : (t207 == 0) = true := beq_iff_eq.mpr c23
                              have c23b1 : (t207 != 0) = false := bne_eq_false_iff_eq.mpr c23
                              clear c23
                              have H' := Aside0.mk H
                              clear H
                              have p205 : 0 ≤ (x8_4 : Int) := of_decide_eq_true (by first | (with_reducible assumption) | assumption)
                              have q205 : x8_4 < (l0.length : Int) := of_decide_eq_true (by first | (with_reducible assumption) | assumption)
                              obtain ⟨ad205, A205_0, c205_0, e205, hx205_0, hl205_0, hi205_0⟩ := at_L1 HR0.out x8_4 p205 q205
                              cases e205
                              replace hx205_0 := (HB.out.cell (World.block_lt_of_cell? w _ hx205_0)).trans hx205_0
                              have HR205_0 := Aside0.mk hi205_0
                              have HC205_0 := Aside0.mk hl205_0
                              clear hi205_0 hl205_0
                              replace p205 := eq_true p205
                              replace q205 := eq_true q205
                              obtain ⟨Ao24, co24, eo24⟩ := Kd.R_slice HO_7.out
                              subst eo24
                              go_wp2_with (first | ((with_reducible refine gate_callee (f := 14) rfl ?_); refine goesL_ (some 65) rfl rfl Try.func14 (by kernel_rfl) rfl #[.slice Ao24 x7_4.length co24, .slice A205_0 (rd_L1 l0 x8_4).length c205_0] rfl (by (try simp only [List.map_toArray, List.map_cons, List.map_nil]); first | done | rfl | (simp only [List.length_drop, List.length_take]; rfl)) ?_; (with_reducible refine (octet_PutList.calls k4 _ _ x7_4 _ _ (rd_L1 l0 x8_4) t206 t207 _ ?side1 ?side2 ?side3 ?side4 A22.out).mono ?_); (case side1 => repeat (first | exact (Kd.R_reads' HO_7.out).2.2 | (with_reducible refine Kd.C_alloc ?_ _) | (with_reducible refine Kd.C_drewN ?_ _) | (with_reducible refine Kd.C_drew ?_))); (case side2 => exact (Kd.R_reads' HO_7.out).2.1); (case side3 => repeat (first | exact (Kd.C_below HR205_0.out HB.out) | (with_reducible refine Kd.C_alloc ?_ _) | (with_reducible refine Kd.C_drewN ?_ _) | (with_reducible refine Kd.C_drew ?_))); (case side4 => exact HC205_0.out); rintro e w25 ⟨v208, rfl, ho0, hb⟩; refine ⟨_, rfl, ?_⟩; have n0_ := Aside0.mk (Kd.R_elder' (by (with_reducible repeat (first | apply Kd.R_alloc | apply Kd.R_drewN | apply Kd.R_drew)); exact HO_7.out) (Kd.R_base ho0) hb); have n1_ := Aside0.mk (Kd.R_lower (Kd.R_new' ho0 (Kd.R_lt (by (with_reducible repeat (first | apply Kd.R_alloc | apply Kd.R_drewN | apply Kd.R_drew)); exact HO_7.out))) (below_size (by repeat (first | (with_reducible first | exact HB.out | apply below_alloc | apply pw_below_drewN | apply below_drew1) | exact HB.out)))); have n2_ := Aside0.mk (below_step (by repeat (first | (with_reducible first | exact HB.out | apply below_alloc | apply pw_below_drewN | apply below_drew1) | exact HB.out)) hb); clear HO_7; clear HB; have HO_7 := n0_; have HO209 := n1_; have HB := n2_; clear n0_ n1_ n2_; (try clear hb); (try clear hb2); (try clear hk); (try clear hi); (try clear ho0)))
                              go_roundg k4
                              case measure => have := HK1.out; have := HJ2.out; have := HJ10.out; have := HK4.out; omega
                              case rel => exact ⟨(t206), (wrap64 (x8_4 + 1)), (by first | rfl | (simp; done) | (simp [*]; done) | (congr 1; omega) | (simp; omega)), H', ⟨by have := HK1.out; have := HJ2.out; have := HJ10.out; have := HK4.out; omega⟩, ⟨by (with_reducible repeat (first | apply Kd.R_alloc | apply Kd.R_drewN | apply Kd.R_drew)); exact Kd.R_mono HO209.out (fun _ hk => trivial)⟩, ⟨by repeat (first | (with_reducible first | exact HB.out | apply below_alloc | apply pw_below_drewN | apply below_drew1) | exact HB.out)⟩⟩
                            · rw [if_neg c23] at H
                              have c23b0 : (t207 == 0) = false := beq_eq_false_iff_ne.mpr c23
                              have c23b1 : (t207 != 0) = true := bne_iff_ne.mpr c23
                              exact absurd ((Option.some.inj H).trans HR_.out) (by simp)
                          · rw [if_neg c21] at H
                            exact absurd H (by simp)
                        · rw [if_neg c20] at H
                          have c20b0 : decide (x8_4 < (l0.length : Int)) = false := decide_eq_false c20
                          clear c20
                          by_cases c26 : (x7_4.length : Int) < (l1.length : Int)
                          · rw [if_pos c26] at H
                            have c26b0 : decide ((x7_4.length : Int) < (l1.length : Int)) = true := decide_eq_true c26
                            have c26b1 : decide (x7_4.length < l1.length) = true := decide_eq_true (Int.ofNat_lt.mp c26)
                            clear c26
                            exact absurd ((Option.some.inj H).trans HR_.out) (by simp)
                          · rw [if_neg c26] at H
                            have c26b0 : decide ((x7_4.length : Int) < (l1.length : Int)) = false := decide_eq_false c26
                            have c26b1 : decide (x7_4.length < l1.length) = false := decide_eq_false (fun h => c26 (Int.ofNat_lt.mpr h))
                            clear c26
                            by_cases c27 : 0 ≤ (l1.length : Int)
                            · rw [if_pos c27] at H
                              have c27b0 := eq_true c27
                              have c27b1 : decide (0 ≤ (l1.length : Int)) = true := decide_eq_true c27
                              clear c27
                              by_cases c28 : (l1.length : Int) ≤ (x7_4.length : Int)
                              · rw [if_pos c28] at H
                                have c28b0 := eq_true c28
                                have c28b1 : decide ((l1.length : Int) ≤ (x7_4.length : Int)) = true := decide_eq_true c28
                                clear c28
                                obtain ⟨y210, hy210⟩ : ∃ y_ : List Int, y_ = (x7_4.drop ((l1.length : Int) : Int).toNat) := ⟨_, rfl⟩
                                replace H : ((octet_New.f y210).bind fun bt214 => (withylaw02_OctetLists.l2 k4 l0 0 bt214.1 bt214.2)) = some r := by first | (rw [hy210]; with_reducible exact H) | (have H2_ := (Option.bind_some _ _).symm.trans H; rw [hy210]; with_reducible exact H2_) | (have H2_ := (Option.bind_some _ _).symm.trans H; with_reducible exact H2_) | with_reducible exact H | (rw [hy210]; exact H) | exact H
                                have Ny210 := Aside0.mk hy210
                                clear hy210
                                replace H := Option.bind_eq_some_iff.mp H
                                obtain ⟨⟨t214, t217⟩, A290, H⟩ := H
                                replace H : (withylaw02_OctetLists.l2 k4 l0 0 t214 t217) = some r := H
                                have A29 := Aside0.mk A290
                                clear A290
                                have H' := Aside0.mk H
                                clear H
                                obtain ⟨Ao30, co30, eo30⟩ := Kd.R_slice HO_7.out
                                subst eo30
                                have q31 : ((l1.length : Int) : Int) ≤ ((x7_4.length : Int) : Int) := of_decide_eq_true (by first | (with_reducible assumption) | assumption)
                                obtain ⟨i031, hi031, _, hsz31, _⟩ := info_parts info5
                                have hroom31 : x7_4.length ≤ co30 := (Kd.R_reads' HO_7.out).2.1
                                have hC31 : Kd.C (Kd.int .u8) _ Ao30 x7_4.length x7_4 := (Kd.R_reads' HO_7.out).2.2
                                have q031 : (0 : Int) ≤ ((l1.length : Int) : Int) := of_decide_eq_true (by first | (with_reducible assumption) | assumption)
                                have hcut31 := cut_from (P := Try.prog) 24 5 .i64 Try.underlying24 hi031 1 hsz31 Ao30 x7_4.length co30 (l1.length : Int) q031 q31
                                have hr31 := Kd.C_drop (m := ((l1.length : Int) : Int).toNat) (c := co30) hC31 (by omega) hroom31
                                obtain ⟨A31, hA31⟩ : ∃ A1, A1 = (if co30 = ((l1.length : Int) : Int).toNat then Ao30 else (Ao30 : Option Addr).map (·.add (((l1.length : Int) : Int).toNat * 1))) := ⟨_, rfl⟩
                                obtain ⟨c31, hc31⟩ : ∃ c1, c1 = co30 - ((l1.length : Int) : Int).toNat := ⟨_, rfl⟩
                                have hy31 : y210.length = x7_4.length - ((l1.length : Int) : Int).toNat := (by rw [Ny210.out, List.length_drop] <;> omega)
                                rw [show (x7_4).drop ((l1.length : Int) : Int).toNat = y210 from Ny210.out.symm] at hr31
                                replace hr31 : Kd.C (Kd.int .u8) _ A31 y210.length y210 := (by rw [hA31]; exact hr31)
                                rw [← hy31, ← hA31, ← hc31] at hcut31
                                have HR213 := Aside0.mk hr31
                                have HC213 := Aside0.mk (show y210.length ≤ c31 from by rw [hy31, hc31]; exact Nat.sub_le_sub_right hroom31 _)
                                clear hr31 hC31 hroom31 hi031 hsz31 hc31
                                have KY31 := Aside0.mk hy31
                                have KA31 := Aside0.mk hA31
                                clear hy31 hA31
                                have KL31 := Aside0.mk (show ((l1.length : Int) : Int).toNat ≤ x7_4.length from by omega)
                                replace q31 := eq_true q31
                                go_wp2_with (first | ((with_reducible refine gate_callee (f := 9) rfl ?_); refine goesL_ (some 80) rfl rfl Try.func9 (by kernel_rfl) rfl #[.slice A31 y210.length c31] rfl (by (try simp only [List.map_toArray, List.map_cons, List.map_nil]); first | done | rfl | (simp only [List.length_drop, List.length_take]; rfl)) ?_; (with_reducible refine (octet_New.calls _ _ y210 t214 t217 _ ?side1 ?side2 A29.out).mono ?_); (case side1 => repeat (first | exact (by repeat (first | (with_reducible exact HR213.out) | (with_reducible refine Kd.C_alloc ?_ _) | (with_reducible refine Kd.C_drewN ?_ _) | (with_reducible refine Kd.C_drew ?_) | exact HR213.out)) | (with_reducible refine Kd.C_alloc ?_ _) | (with_reducible refine Kd.C_drewN ?_ _) | (with_reducible refine Kd.C_drew ?_))); (case side2 => exact HC213.out); rintro e w32 ⟨v215, gb218, rfl, ho0, hbox218, hgb218, hb⟩; refine ⟨_, rfl, ?_⟩; have n0_ := Aside0.mk (Kd.R_elder' (by (with_reducible repeat (first | apply Kd.R_alloc | apply Kd.R_drewN | apply Kd.R_drew)); exact HO_7.out) (Kd.R_base ho0) hb); have n1_ := Aside0.mk (Kd.R_lower (Kd.R_new' ho0 (Kd.R_lt (by (with_reducible repeat (first | apply Kd.R_alloc | apply Kd.R_drewN | apply Kd.R_drew)); exact HO_7.out))) (below_size (by repeat (first | (with_reducible first | exact HB.out | apply below_alloc | apply pw_below_drewN | apply below_drew1) | exact HB.out)))); have n2_ := Aside0.mk (Kd.C_below (by repeat (first | (with_reducible exact HR213.out) | (with_reducible refine Kd.C_alloc ?_ _) | (with_reducible refine Kd.C_drewN ?_ _) | (with_reducible refine Kd.C_drew ?_) | exact HR213.out)) hb); have n3_ := Aside0.mk (hbox218); have n4_ := Aside0.mk ((Nat.le_trans (below_size (by repeat (first | (with_reducible first | exact HB.out | apply below_alloc | apply pw_below_drewN | apply below_drew1) | exact HB.out))) hgb218 : w.heap.size ≤ gb218)); have n5_ := Aside0.mk ((Nat.le_trans (below_size (by repeat (first | (with_reducible first | exact HB.out | apply below_alloc | apply pw_below_drewN | apply below_drew1) | exact HB.out))) hgb218 : w.heap.size ≤ gb218)); have n6_ := Aside0.mk (below_step (by repeat (first | (with_reducible first | exact HB.out | apply below_alloc | apply pw_below_drewN | apply below_drew1) | exact HB.out)) hb); clear HO_7; clear HR213; clear HB; have HO_7 := n0_; have HO216 := n1_; have HR213 := n2_; have BK218 := n3_; have GW218 := n4_; have GE218 := n5_; have HB := n6_; clear n0_ n1_ n2_ n3_ n4_ n5_ n6_; (try clear hb); (try clear hb2); (try clear hk); (try clear hi); (try clear hbox218); (try clear hgb218); (try clear ho0)))
                                go_loopg [12] k4 (fun kq v12 w' => ∃ (x12_5 : Int) (x219000_5 : List Int) (x219001_5 : Int) (u219000 : Value), v12 = .int .i64 x12_5 ∧ Aside0 (withylaw02_OctetLists.l2 kq l0 x12_5 x219000_5 x219001_5 = some r) ∧ Aside0 (kq ≤ k4) ∧ Aside0 (Kd.V (Kd.int .u8) 5 w' w.heap.size (fun k_ => k_ ≠ gb218) u219000 x219000_5) ∧ Aside0 (w'.heap[gb218]? = some (.cells #[u219000, .int .i64 x219001_5] 50 (0, 0))) ∧ Aside0 (Below w.heap.size w w'))
                                case atStart => exact ⟨(0), (t214), (t217), (v215), (by first | rfl | (simp; done) | (simp [*]; done) | (congr 1; omega) | (simp; omega)), H', ⟨Nat.le_refl _⟩, ⟨Kd.R_V (by (with_reducible repeat (first | apply Kd.R_alloc | apply Kd.R_drewN | apply Kd.R_drew)); exact Kd.R_mono (Kd.R_types HO216.out BK218.out (by decide)) (fun _ hk => hk.2))⟩, ⟨by (with_reducible repeat (first | refine blk_drewN ?_ _ | refine blk_drew ?_ | refine blk_alloc ?_ _)); exact BK218.out⟩, ⟨by repeat (first | (with_reducible first | exact HB.out | apply below_alloc | apply pw_below_drewN | apply below_drew1 | refine below_set ?_ GE218.out) | exact HB.out)⟩⟩
                                case round =>
                                  clear H'
                                  try clear c1
                                  try clear p1
                                  try clear q1
                                  try clear hx1
                                  try clear c2
                                  try clear p2
                                  try clear q2
                                  try clear hx2
                                  try clear c3
                                  try clear q3
                                  try clear c4
                                  try clear c4b0
                                  try clear c5
                                  try clear c6
                                  try clear c6b0
                                  try clear p6
                                  try clear c7
                                  try clear c7b0
                                  try clear c8
                                  try clear c8b0
                                  try clear c9
                                  try clear c12
                                  try clear c12b0
                                  try clear c12b1
                                  try clear c13
                                  try clear c14
                                  try clear c16
                                  try clear c19
                                  try clear p19
                                  try clear q19
                                  try clear hx19
                                  try clear c20
                                  try clear c20b0
                                  try clear p20
                                  try clear q20
                                  try clear hx20
                                  try clear c21
                                  try clear c21b0
                                  try clear c23
                                  try clear c23b0
                                  try clear c23b1
                                  try clear c26
                                  try clear c26b0
                                  try clear c26b1
                                  try clear c27
                                  try clear c27b0
                                  try clear c27b1
                                  try clear c28
                                  try clear c28b0
                                  try clear c28b1
                                  try clear c31
                                  try clear q31
                                  try clear hx195_0
                                  try clear hx197_0
                                  try clear hx205_0
                                  try clear p1
                                  try clear p19
                                  try clear p195
                                  try clear p197
                                  try clear p2
                                  try clear p205
                                  try clear p6
                                  try clear q031
                                  try clear q1
                                  try clear q19
                                  try clear q195
                                  try clear q197
                                  try clear q205
                                  try clear q31
                                  obtain ⟨x12_5, x219000_5, x219001_5, u219000, rfl, HA, HK5, HO_219000, BK218, HB⟩ := hrel
                                  cases gk with
                                  | zero => exact absurd HA.out (by simp [withylaw02_OctetLists.l2])
                                  | succ k5 =>
                                    have H := HA.out
                                    clear HA
                                    simp only [withylaw02_OctetLists.l2] at H
                                    by_cases c33 : x12_5 < (l0.length : Int)
                                    · rw [if_pos c33] at H
                                      have c33b0 : decide (x12_5 < (l0.length : Int)) = true := decide_eq_true c33
                                      clear c33
                                      replace H := Option.bind_eq_some_iff.mp H
                                      obtain ⟨⟨t219, t222, t225⟩, A340, H⟩ := H
                                      replace H : (if 0 ≤ x12_5 then (if (strOfNums t219).toList = (strOfNums (rd_L1 l0 x12_5)).toList then (withylaw02_OctetLists.l2 k5 l0 (wrap64 (x12_5 + 1)) t222 t225) else (some false)) else (none)) = some r := H
                                      have A34 := Aside0.mk A340
                                      clear A340
                                      by_cases c35 : 0 ≤ x12_5
                                      · rw [if_pos c35] at H
                                        have c35b0 : decide (0 ≤ x12_5) = true := decide_eq_true c35
                                        clear c35
                                        by_cases c36 : (strOfNums t219).toList = (strOfNums (rd_L1 l0 x12_5)).toList
                                        · rw [if_pos c36] at H
                                          have c36b0 : ((strOfNums t219).toList == (strOfNums (rd_L1 l0 x12_5)).toList) = true := beq_iff_eq.mpr c36
                                          have c36b1 : ((strOfNums t219).toList != (strOfNums (rd_L1 l0 x12_5)).toList) = false := bne_eq_false_iff_eq.mpr c36
                                          clear c36
                                          have H' := Aside0.mk H
                                          clear H
                                          obtain ⟨Ao37, co37, eo37⟩ := Kd.V_slice HO_219000.out
                                          subst eo37
                                          try go_wp2
                                          have n0_ := Aside0.mk (Kd.V_drew HO_219000.out)
                                          have n1_ := Aside0.mk (blk_drew BK218.out)
                                          have n2_ := Aside0.mk (below_drew1 HB.out)
                                          clear HO_219000
                                          clear BK218
                                          clear HB
                                          have HO_219000 := n0_
                                          have BK218 := n1_
                                          have HB := n2_
                                          clear n0_ n1_ n2_
                                          have p226 : 0 ≤ (x12_5 : Int) := of_decide_eq_true (by first | (with_reducible assumption) | assumption)
                                          have q226 : x12_5 < (l0.length : Int) := of_decide_eq_true (by first | (with_reducible assumption) | assumption)
                                          obtain ⟨ad226, A226_0, c226_0, e226, hx226_0, hl226_0, hi226_0⟩ := at_L1 HR0.out x12_5 p226 q226
                                          have hw226_0 := hx226_0
                                          cases e226
                                          replace hx226_0 := (HB.out.cell (World.block_lt_of_cell? w _ hx226_0)).trans hx226_0
                                          have HR226_0 := Aside0.mk hi226_0
                                          have HC226_0 := Aside0.mk hl226_0
                                          clear hi226_0 hl226_0
                                          replace p226 := eq_true p226
                                          replace q226 := eq_true q226
                                          refine start_ (n := 9) (S := fun w' => w'.cell? (ad226.add (x12_5).toNat) = some (.slice A226_0 (rd_L1 l0 x12_5).length c226_0) ∧ (convert 24 9 (.slice A226_0 (rd_L1 l0 x12_5).length c226_0)).run Try.prog w' = .ok (.string (strOfNums (rd_L1 l0 x12_5))) w') (ds := []) #[false, false, false, false, false, false, false, false, false] (by kernel_rfl) rfl rfl ⟨((HB.out.cell (World.block_lt_of_cell? w _ hw226_0)).trans hw226_0), (Kd.C_string (P := Try.prog) (A := A226_0) (c := c226_0) Try.underlying24 Try.underlying5 Try.underlying9 (Kd.C_below HR226_0.out HB.out))⟩ (fun hHeld => ?_); refine with_tabW withylaw02_OctetLists.tab26 withylaw02_OctetLists.bits26 (fun HT_ HW_ => ?_)
                                          generalize wr.drew = w38 at HO_219000 BK218 HB HR226_0 hx226_0 hHeld ⊢
                                          refine pure_ (i := 0) (N := some 89) (v := ?_) (a' := ?_) #[true, false, false, false, false, false, false, false, false] rfl rfl (any_of HT_.out (by kernel_rfl)) (fun _ _ _ h => h) (Or.inl ⟨by rfl, ?_⟩) ?_ ?_
                                          rotate_left
                                          · intro w'
                                            go_simp
                                            with_reducible rfl
                                          rotate_left
                                          · simp only [Act.put, List.setIfInBounds_toArray, List.set_cons_zero, List.set_cons_succ, i64_w, i32_w]
                                            rfl
                                          refine pure_ (i := 3) (N := some 92) (v := ?_) (a' := ?_) #[true, false, false, true, false, false, false, false, false] rfl rfl (any_of HT_.out (by kernel_rfl)) (fun _ _ _ h => h) (Or.inl ⟨by rfl, ?_⟩) ?_ ?_
                                          rotate_left
                                          · intro w'
                                            go_simp
                                            with_reducible rfl
                                          rotate_left
                                          · simp only [Act.put, List.setIfInBounds_toArray, List.set_cons_zero, List.set_cons_succ, i64_w, i32_w]
                                            rfl
                                          refine pure_ (i := 4) (N := some 93) (v := ?_) (a' := ?_) #[true, false, false, true, true, false, false, false, false] rfl rfl (any_of HT_.out (by kernel_rfl)) (fun _ _ _ h => h) (Or.inl ⟨by rfl, ?_⟩) ?_ ?_
                                          rotate_left
                                          · intro w'
                                            go_simp
                                            with_reducible rfl
                                          rotate_left
                                          · simp only [Act.put, List.setIfInBounds_toArray, List.set_cons_zero, List.set_cons_succ, i64_w, i32_w]
                                            rfl
                                          refine pure_ (i := 5) (N := some 94) (v := ?_) (a' := ?_) #[true, false, false, true, true, true, false, false, false] rfl rfl (any_of HT_.out (by kernel_rfl)) (fun _ _ _ h => h) (Or.inl ⟨by rfl, ?_⟩) ?_ ?_
                                          rotate_left
                                          · intro w'
                                            go_simp
                                            with_reducible rfl
                                          rotate_left
                                          · simp only [Act.put, List.setIfInBounds_toArray, List.set_cons_zero, List.set_cons_succ, i64_w, i32_w]
                                            rfl
                                          refine take_ (i := 6) (N := some 95) (v := ?_) (a' := ?_) #[true, false, false, true, true, true, true, false, false] rfl rfl (take_ofW HT_.out HW_.out (by kernel_rfl)) (fun _ _ _ h => h) (Or.inl ⟨by rfl, ?_⟩) hHeld ?_ ?_
                                          rotate_left
                                          · rintro w' ⟨s0, s1⟩
                                            go_simp
                                            with_reducible rfl
                                          rotate_left
                                          · simp only [Act.put, List.setIfInBounds_toArray, List.set_cons_zero, List.set_cons_succ, i64_w, i32_w]
                                            rfl
                                          refine take_ (i := 7) (N := some 96) (v := ?_) (a' := ?_) #[true, false, false, true, true, true, true, true, false] rfl rfl (take_ofW HT_.out HW_.out (by kernel_rfl)) (fun _ _ _ h => h) (Or.inl ⟨by rfl, ?_⟩) hHeld ?_ ?_
                                          rotate_left
                                          · rintro w' ⟨s0, s1⟩
                                            go_simp
                                            with_reducible rfl
                                          rotate_left
                                          · simp only [Act.put, List.setIfInBounds_toArray, List.set_cons_zero, List.set_cons_succ, i64_w, i32_w]
                                            rfl
                                          refine one_ (i := 1) (N := some 90) #[true, true, false, true, true, true, true, true, false] rfl rfl (one_of HT_.out (by kernel_rfl)) (by decide) (fun K hK => ?_)
                                          refine goes_ Try.func16 (by kernel_rfl) rfl #[.pointer (some ⟨gb218, 0, none⟩)] (by rfl) rfl rfl (by (try simp only [List.map_toArray, List.map_cons, List.map_nil]); first | done | rfl | (simp only [List.length_drop, List.length_take]; rfl)) ?_
                                          with_reducible refine (octet_Scan_List.calls k5 gb218 (fun k_ => k_ ≠ gb218) Ao37 co37 x219000_5 x219001_5 t219 t222 t225 w _ ?side1 ?side2 ?side3 ?side4 A34.out).mono ?_
                                          (case side1 => repeat (first | (with_reducible first | exact HB.out | apply below_alloc | apply pw_below_drewN | apply below_drew1 | refine below_set ?_ GE218.out) | exact HB.out))
                                          (case side2 => (with_reducible repeat (first | refine blk_drewN ?_ _ | refine blk_drew ?_ | refine blk_alloc ?_ _)); exact BK218.out)
                                          (case side3 => exact GE218.out)
                                          (case side4 => exact Kd.V_mono (HO_219000.out) (fun k_ hk_ => ⟨hk_, hk_⟩))
                                          rintro e w39 ⟨v220, v223, rfl, ho0, ho1, hbx0, hb, hkp⟩
                                          refine ⟨_, rfl, ?_⟩
                                          have n0_ := Aside0.mk (Kd.V_mono (ok' := fun k_ => k_ ≠ gb218 ∧ some k_ ≠ (v220 : Value).ownBlock) (Kd.V_keptB (HO_219000.out) hkp (fun k_ hk_ hs_ => (hk_) hs_)) (fun k_ hk_ => ⟨hk_.1, fun e_ => Nat.not_le.2 hk_.2.2 ((ho0.1 k_ e_.symm))⟩))
                                          have n1_ := Aside0.mk (hbx0)
                                          have n2_ := Aside0.mk (Kd.R_mono (ok' := fun k_ => True) ho0 (fun k_ hk_ => trivial))
                                          have n3_ := Aside0.mk (Kd.V_mono (ok' := fun k_ => some k_ ≠ (v220 : Value).ownBlock ∧ k_ ≠ gb218) ho1 (fun k_ hk_ => ⟨hk_.2, Or.elim hk_.1 (fun hs_ => hs_) (fun hn_ => (Kd.freshB (g := gb218) (o := .cells #[.slice Ao37 x219000_5.length co37, .int .i64 x219001_5] 50 (0, 0)) (by (with_reducible repeat (first | refine blk_drewN ?_ _ | refine blk_drew ?_ | refine blk_alloc ?_ _)); exact BK218.out) k_ hn_))⟩))
                                          have n4_ := Aside0.mk (hb)
                                          clear HO_219000
                                          clear BK218
                                          clear HB
                                          have HO_219000 := n0_
                                          have BK218 := n1_
                                          have HO221 := n2_
                                          have HO224 := n3_
                                          have HB := n4_
                                          clear n0_ n1_ n2_ n3_ n4_
                                          (try clear hb)
                                          (try clear hkp)
                                          (try clear hbx0)
                                          (try clear ho0)
                                          (try clear ho1)
                                          refine hK.out _ _ ⟨((HB.out.cell (World.block_lt_of_cell? w _ hw226_0)).trans hw226_0), (Kd.C_string (P := Try.prog) (A := A226_0) (c := c226_0) Try.underlying24 Try.underlying5 Try.underlying9 (Kd.C_below HR226_0.out HB.out))⟩ (fun hHeld => ?_)
                                          clear hK K
                                          refine norm_ (a' := ?_) ?_ ?_
                                          rotate_left
                                          · show Act.put _ (some 90) _ = _
                                            simp only [Act.put, List.setIfInBounds_toArray, List.set_cons_zero, List.set_cons_succ, i64_w, i32_w]
                                            rfl
                                          refine one_ (i := 2) (N := some 91) #[true, true, true, true, true, true, true, true, false] rfl rfl (one_of HT_.out (by kernel_rfl)) (by decide) (fun K hK => ?_)
                                          have hcv40 := own_string (P := Try.prog) Try.underlying24 Try.underlying5 Try.underlying9 (Kd.own_of_R HO221.out)
                                          refine value_ (w1 := ?_) (v := ?_) (by rfl) rfl ?_ ?_
                                          rotate_left 2
                                          · go_simp
                                            constructor
                                            · rfl
                                            · rfl
                                          clear hcv40
                                          refine hK.out _ _ ⟨((HB.out.cell (World.block_lt_of_cell? w _ hw226_0)).trans hw226_0), (Kd.C_string (P := Try.prog) (A := A226_0) (c := c226_0) Try.underlying24 Try.underlying5 Try.underlying9 (Kd.C_below HR226_0.out HB.out))⟩ (fun hHeld => ?_)
                                          clear hK K
                                          refine norm_ (a' := ?_) ?_ ?_
                                          rotate_left
                                          · show Act.put _ (some 91) _ = _
                                            simp only [Act.put, List.setIfInBounds_toArray, List.set_cons_zero, List.set_cons_succ, i64_w, i32_w]
                                            rfl
                                          refine pure_ (i := 8) (N := some 97) (v := ?_) (a' := ?_) #[true, true, true, true, true, true, true, true, true] rfl rfl (any_of HT_.out (by kernel_rfl)) (fun _ _ _ h => h) (Or.inl ⟨by rfl, ?_⟩) ?_ ?_
                                          rotate_left
                                          · intro w'
                                            go_simp
                                            with_reducible rfl
                                          rotate_left
                                          · simp only [Act.put, List.setIfInBounds_toArray, List.set_cons_zero, List.set_cons_succ, i64_w, i32_w]
                                            rfl
                                          refine done_ (done_of HT_.out (by kernel_rfl)) ?_
                                          try go_wp2
                                          go_roundg k5
                                          case measure => have := HK1.out; have := HJ2.out; have := HJ10.out; have := HK4.out; have := HK5.out; omega
                                          case rel => exact ⟨(wrap64 (x12_5 + 1)), (t222), (t225), (v223), (by first | rfl | (simp; done) | (simp [*]; done) | (congr 1; omega) | (simp; omega)), H', ⟨by have := HK1.out; have := HJ2.out; have := HJ10.out; have := HK4.out; have := HK5.out; omega⟩, ⟨by (with_reducible repeat (first | apply Kd.V_alloc | apply Kd.V_drewN | apply Kd.V_drew)); exact Kd.V_mono HO224.out (fun _ hk => hk.2)⟩, ⟨by (with_reducible repeat (first | refine blk_drewN ?_ _ | refine blk_drew ?_ | refine blk_alloc ?_ _)); exact BK218.out⟩, ⟨by repeat (first | (with_reducible first | exact HB.out | apply below_alloc | apply pw_below_drewN | apply below_drew1 | refine below_set ?_ GE218.out) | exact HB.out)⟩⟩
                                        · rw [if_neg c36] at H
                                          have c36b0 : ((strOfNums t219).toList == (strOfNums (rd_L1 l0 x12_5)).toList) = false := beq_eq_false_iff_ne.mpr c36
                                          have c36b1 : ((strOfNums t219).toList != (strOfNums (rd_L1 l0 x12_5)).toList) = true := bne_iff_ne.mpr c36
                                          exact absurd ((Option.some.inj H).trans HR_.out) (by simp)
                                      · rw [if_neg c35] at H
                                        exact absurd H (by simp)
                                    · rw [if_neg c33] at H
                                      have c33b0 : decide (x12_5 < (l0.length : Int)) = false := decide_eq_false c33
                                      clear c33
                                      replace H := Option.bind_eq_some_iff.mp H
                                      obtain ⟨t227, A420, H⟩ := H
                                      replace H : (if t227 = 0 then ((withylaw02_awake.f k5).bind fun t228 => (some t228)) else (some false)) = some r := H
                                      have A42 := Aside0.mk A420
                                      clear A420
                                      by_cases c43 : t227 = 0
                                      · rw [if_pos c43] at H
                                        have c43b0 : (t227 == 0) = true := beq_iff_eq.mpr c43
                                        have c43b1 : (t227 != 0) = false := bne_eq_false_iff_eq.mpr c43
                                        clear c43
                                        replace H := Option.bind_eq_some_iff.mp H
                                        obtain ⟨t228, A440, H⟩ := H
                                        replace H : (some t228) = some r := H
                                        have A44 := Aside0.mk A440
                                        clear A440
                                        obtain rfl := Option.some.inj H
                                        obtain ⟨Ao45, co45, eo45⟩ := Kd.V_slice HO_219000.out
                                        subst eo45
                                        go_wp2_with (first | ((with_reducible refine gate_callee (f := 11) rfl ?_); refine goesL_ (some 99) rfl rfl Try.func11 (by kernel_rfl) rfl #[.pointer (some ⟨gb218, 0, none⟩)] rfl (by (try simp only [List.map_toArray, List.map_cons, List.map_nil]); first | done | rfl | (simp only [List.length_drop, List.length_take]; rfl)) ?_; (with_reducible refine (octet_Scan_End.calls gb218 Ao45 co45 x219000_5 x219001_5 t227 w _ ?side1 ?side2 ?side3 ?side4 ?side5 A42.out).mono ?_); (case side1 => repeat (first | (with_reducible first | exact HB.out | apply below_alloc | apply pw_below_drewN | apply below_drew1 | refine below_set ?_ GE218.out) | exact HB.out)); (case side2 => (with_reducible repeat (first | refine blk_drewN ?_ _ | refine blk_drew ?_ | refine blk_alloc ?_ _)); exact BK218.out); (case side3 => exact GE218.out); (case side4 => exact Kd.C_kept_ownV (HO_219000.out) (fun k_ hk_ hs_ => (hk_) hs_)); (case side5 => exact (Kd.V_reads' HO_219000.out).2.1); rintro e w46 ⟨rfl, hbx0, hb, hkp⟩; refine ⟨_, rfl, ?_⟩; have n0_ := Aside0.mk (Kd.V_mono (ok' := fun k_ => k_ ≠ gb218) (Kd.V_keptB (HO_219000.out) hkp (fun k_ hk_ hs_ => (hk_) hs_)) (fun k_ hk_ => hk_.1)); have n1_ := Aside0.mk (hbx0); have n2_ := Aside0.mk (hb); clear HO_219000; clear BK218; clear HB; have HO_219000 := n0_; have BK218 := n1_; have HB := n2_; clear n0_ n1_ n2_; (try clear hb); (try clear hkp); (try clear hbx0)) | (go_at_call 12; (with_reducible refine (withylaw02_awake.calls k5  t228 _ A44.out).mono ?_); rintro e w47 ⟨rfl, hb⟩; have n0_ := Aside0.mk (Kd.V_below (by (with_reducible repeat (first | apply Kd.V_alloc | apply Kd.V_drewN | apply Kd.V_drew)); exact HO_219000.out) hb); have n1_ := Aside0.mk (blk_below (g := gb218) (o := .cells #[.slice Ao45 x219000_5.length co45, .int .i64 x219001_5] 50 (0, 0)) (by (with_reducible repeat (first | refine blk_drewN ?_ _ | refine blk_drew ?_ | refine blk_alloc ?_ _)); exact BK218.out) hb); have n2_ := Aside0.mk (below_step (by repeat (first | (with_reducible first | exact HB.out | apply below_alloc | apply pw_below_drewN | apply below_drew1 | refine below_set ?_ GE218.out) | exact HB.out)) hb); clear HO_219000; clear BK218; clear HB; have HO_219000 := n0_; have BK218 := n1_; have HB := n2_; clear n0_ n1_ n2_; (try clear hb); (try clear hb2); (try clear hk); (try clear hi)))
                                        go_ret
                                        exact ⟨by first | rfl | (simp [errW_none, errW_some] <;> rfl) | (simp [*, errW_none, errW_some] <;> rfl), by repeat (first | (with_reducible first | exact HB.out | apply below_alloc | apply pw_below_drewN | apply below_drew1 | refine below_set ?_ GE218.out) | exact HB.out)⟩
                                      · rw [if_neg c43] at H
                                        have c43b0 : (t227 == 0) = false := beq_eq_false_iff_ne.mpr c43
                                        have c43b1 : (t227 != 0) = true := bne_iff_ne.mpr c43
                                        exact absurd ((Option.some.inj H).trans HR_.out) (by simp)
                              · rw [if_neg c28] at H
                                exact absurd H (by simp)
                            · rw [if_neg c27] at H
                              exact absurd H (by simp)
                  · rw [if_neg c16] at H
                    exact absurd H (by simp)
def withylaw02_OctetLists.Pure : Prop := ∀ (l0 : List (List Int)) (l1 : List Int), l0.length * 24 ≤ 140737488351232 → (∀ x_ ∈ l0, (x_.length * 1 ≤ 140737488351232 ∧ ∀ y_ ∈ x_, (Lit.int .u8 y_).wf = true)) → l1.length * 1 ≤ 140737488351232 → (∀ x_ ∈ l1, (Lit.int .u8 x_).wf = true) → ∃ k, withylaw02_OctetLists.f k l0 l1 = some true

end Go.Proofs.Ytfbdidijdibhmaa.POctetLists
