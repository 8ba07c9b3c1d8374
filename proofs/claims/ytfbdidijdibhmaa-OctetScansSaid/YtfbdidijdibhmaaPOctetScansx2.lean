-- written by a widened copy of the print, a program of this session; Lean checks it.
import Derived.Test.YtfbdidijdibhmaaPOctetScansx0
import Derived.Test.YtfbdidijdibhmaaPOctetScansx1
namespace Go.Proofs.Ytfbdidijdibhmaa.POctetScans
open Go.RowKit Go.Proofs.YtfbdidijdibhmaaW.PrintWords Go.Proofs.YtfbdidijdibhmaaW.PrintLast Go.Proofs.YtfbdidijdibhmaaW.PrintMore
attribute [local go_sem] max2_int min2_int max_two min_two max_three min_three max_four min_four   -- for this text's walks alone
set_option linter.unusedVariables false
set_option linter.unusedSimpArgs false

/-! ### withylaw02_awake: function 12 -/
def withylaw02_awake.f (k : Nat)  : Option (Bool) := (octet_Put.f k ([] : List Int) 300 2).bind fun bt135 => ((octet_New.f bt135.1).bind fun bt139 => (if bt135.2 = 0 then (if (strOfNums bt135.1).toList = ([1, 44] : List UInt8) then ((octet_Scan_Take.f k bt139.1 bt139.2 2).bind fun bt144 => (if bt144.1 = 300 then ((octet_Scan_End.f bt144.2.1 bt144.2.2).bind fun t149 => (some (t149 == 0))) else (some false))) else (some false)) else (some false)))
theorem withylaw02_awake.mono : ∀ k, LeO (withylaw02_awake.f k ) (withylaw02_awake.f (k + 1) ) := by
  intro  k
  unfold withylaw02_awake.f
  repeat' first
      | (with_reducible exact octet_Put.mono _ _ _ _)
      | (with_reducible exact octet_Scan_Take.mono _ _ _ _)
      | (with_reducible exact LeO.refl _)
      | (with_reducible exact LeO.none _)
      | (with_reducible refine LeO.ite ?_ ?_)
      | (with_reducible refine LeO.bind ?_ (fun _ => ?_))
      | exact octet_Put.mono _ _ _ _
      | exact octet_Scan_Take.mono _ _ _ _
      | exact LeO.none _
      | refine LeO.ite ?_ ?_
      | refine LeO.bind ?_ (fun _ => ?_)
set_option maxHeartbeats 8000000 in
set_option maxRecDepth 100000 in
theorem withylaw02_awake.calls (k : Nat)  (r : Bool) (w : World) (h : withylaw02_awake.f k  = some r) :
    Calls Try.prog 12 #[] w fun e w' => e = .returned (.bool r) ∧ Below w.heap.size w w' := by
  have HB := Aside0.mk (Below.refl w.heap.size w)
  have H : ((octet_Put.f k ([] : List Int) 300 2).bind fun bt135 => ((octet_New.f bt135.1).bind fun bt139 => (if bt135.2 = 0 then (if (strOfNums bt135.1).toList = ([1, 44] : List UInt8) then ((octet_Scan_Take.f k bt139.1 bt139.2 2).bind fun bt144 => (if bt144.1 = 300 then ((octet_Scan_End.f bt144.2.1 bt144.2.2).bind fun t149 => (some (t149 == 0))) else (some false))) else (some false)) else (some false)))) = some r := h
  clear h
  replace H := Option.bind_eq_some_iff.mp H
  obtain ⟨⟨t135, t136⟩, A10, H⟩ := H
  replace H : ((octet_New.f t135).bind fun bt139 => (if t136 = 0 then (if (strOfNums t135).toList = ([1, 44] : List UInt8) then ((octet_Scan_Take.f k bt139.1 bt139.2 2).bind fun bt144 => (if bt144.1 = 300 then ((octet_Scan_End.f bt144.2.1 bt144.2.2).bind fun t149 => (some (t149 == 0))) else (some false))) else (some false)) else (some false))) = some r := H
  have A1 := Aside0.mk A10
  clear A10
  replace H := Option.bind_eq_some_iff.mp H
  obtain ⟨⟨t139, t142⟩, A20, H⟩ := H
  replace H : (if t136 = 0 then (if (strOfNums t135).toList = ([1, 44] : List UInt8) then ((octet_Scan_Take.f k t139 t142 2).bind fun bt144 => (if bt144.1 = 300 then ((octet_Scan_End.f bt144.2.1 bt144.2.2).bind fun t149 => (some (t149 == 0))) else (some false))) else (some false)) else (some false)) = some r := H
  have A2 := Aside0.mk A20
  clear A20
  by_cases c3 : t136 = 0
  · rw [if_pos c3] at H
    have c3b0 : (t136 == 0) = true := beq_iff_eq.mpr c3
    have c3b1 : (t136 != 0) = false := bne_eq_false_iff_eq.mpr c3
    clear c3
    by_cases c4 : (strOfNums t135).toList = ([1, 44] : List UInt8)
    · rw [if_pos c4] at H
      have c4b0 : ((strOfNums t135).toList == ([1, 44] : List UInt8)) = true := beq_iff_eq.mpr c4
      have c4b1 : ((strOfNums t135).toList != ([1, 44] : List UInt8)) = false := bne_eq_false_iff_eq.mpr c4
      clear c4
      replace H := Option.bind_eq_some_iff.mp H
      obtain ⟨⟨t144, t145, t148⟩, A50, H⟩ := H
      replace H : (if t144 = 300 then ((octet_Scan_End.f t145 t148).bind fun t149 => (some (t149 == 0))) else (some false)) = some r := H
      have A5 := Aside0.mk A50
      clear A50
      by_cases c6 : t144 = 300
      · rw [if_pos c6] at H
        have c6b0 : (t144 == 300) = true := beq_iff_eq.mpr c6
        have c6b1 : (t144 != 300) = false := bne_eq_false_iff_eq.mpr c6
        clear c6
        replace H := Option.bind_eq_some_iff.mp H
        obtain ⟨t149, A70, H⟩ := H
        replace H : (some (t149 == 0)) = some r := H
        have A7 := Aside0.mk A70
        clear A70
        obtain rfl := Option.some.inj H
        go_enter Try.func12, Try.ntmps12
        go_wp2_with (first | ((with_reducible refine gate_callee (f := 8) rfl ?_); refine goesL_ (some 5) rfl rfl Try.func8 (by kernel_rfl) rfl #[.slice none 0 0, .int .i64 300, .int .i64 2] rfl (by (try simp only [List.map_toArray, List.map_cons, List.map_nil]); first | done | rfl | (simp only [List.length_drop, List.length_take]; rfl)) ?_; (refine (octet_Put.calls k _ _ ([] : List Int) 300 2 t135 t136 _ ?side1 ?side2 A1.out).mono ?_); (case side1 => exact Kd.C_nil _ _); (case side2 => exact Nat.le_refl _); rintro e w8 ⟨v137, rfl, ho0, hb⟩; refine ⟨_, rfl, ?_⟩; have n0_ := Aside0.mk (Kd.R_lower ho0 (below_size (by repeat (first | (with_reducible first | exact HB.out | apply below_alloc | apply pw_below_drewN | apply below_drew1) | exact HB.out)))); have n1_ := Aside0.mk (below_step (by repeat (first | (with_reducible first | exact HB.out | apply below_alloc | apply pw_below_drewN | apply below_drew1) | exact HB.out)) hb); clear HB; have HO138 := n0_; have HB := n1_; clear n0_ n1_; (try clear hb); (try clear hb2); (try clear hk); (try clear hi); (try clear ho0); obtain ⟨Ao9, co9, eo9⟩ := Kd.R_slice HO138.out; subst eo9) | ((with_reducible refine gate_callee (f := 9) rfl ?_); refine goesL_ (some 9) rfl rfl Try.func9 (by kernel_rfl) rfl #[.slice Ao9 t135.length co9] rfl (by (try simp only [List.map_toArray, List.map_cons, List.map_nil]); first | done | rfl | (simp only [List.length_drop, List.length_take]; rfl)) ?_; (with_reducible refine (octet_New.calls _ _ t135 t139 t142 _ ?side1 ?side2 A2.out).mono ?_); (case side1 => repeat (first | exact (Kd.R_reads' HO138.out).2.2 | (with_reducible refine Kd.C_alloc ?_ _) | (with_reducible refine Kd.C_drewN ?_ _) | (with_reducible refine Kd.C_drew ?_))); (case side2 => exact (Kd.R_reads' HO138.out).2.1); rintro e w10 ⟨v140, gb143, rfl, ho0, hbox143, hgb143, hb⟩; refine ⟨_, rfl, ?_⟩; have n0_ := Aside0.mk (Kd.R_elder' (by (with_reducible repeat (first | apply Kd.R_alloc | apply Kd.R_drewN | apply Kd.R_drew)); exact HO138.out) (Kd.R_base ho0) hb); have n1_ := Aside0.mk (Kd.R_lower (Kd.R_new' ho0 (Kd.R_lt (by (with_reducible repeat (first | apply Kd.R_alloc | apply Kd.R_drewN | apply Kd.R_drew)); exact HO138.out))) (below_size (by repeat (first | (with_reducible first | exact HB.out | apply below_alloc | apply pw_below_drewN | apply below_drew1) | exact HB.out)))); have n2_ := Aside0.mk (hbox143); have n3_ := Aside0.mk ((Nat.le_trans (below_size (by repeat (first | (with_reducible first | exact HB.out | apply below_alloc | apply pw_below_drewN | apply below_drew1) | exact HB.out))) hgb143 : w.heap.size ≤ gb143)); have n4_ := Aside0.mk ((Nat.le_trans (below_size (by repeat (first | (with_reducible first | exact HB.out | apply below_alloc | apply pw_below_drewN | apply below_drew1) | exact HB.out))) hgb143 : w.heap.size ≤ gb143)); have n5_ := Aside0.mk (below_step (by repeat (first | (with_reducible first | exact HB.out | apply below_alloc | apply pw_below_drewN | apply below_drew1) | exact HB.out)) hb); clear HO138; clear HB; have HO138 := n0_; have HO141 := n1_; have BK143 := n2_; have GW143 := n3_; have GE143 := n4_; have HB := n5_; clear n0_ n1_ n2_ n3_ n4_ n5_; (try clear hb); (try clear hb2); (try clear hk); (try clear hi); (try clear hbox143); (try clear hgb143); (try clear ho0); have hcv11 := own_string (P := Try.prog) Try.underlying24 Try.underlying5 Try.underlying9 (Kd.own_of_R HO138.out); obtain ⟨Ao12, co12, eo12⟩ := Kd.R_slice HO141.out; subst eo12) | (go_at_call 10; (with_reducible refine (octet_Scan_Take.calls k gb143 (fun k_ => some k_ = (.slice Ao12 t139.length co12 : Value).ownBlock) Ao12 co12 t139 t142 2 t144 t145 t148 w _ ?side1 ?side2 ?side3 ?side4 A5.out).mono ?_); (case side1 => repeat (first | (with_reducible first | exact HB.out | apply below_alloc | apply pw_below_drewN | apply below_drew1 | refine below_set ?_ GE143.out) | exact HB.out)); (case side2 => (with_reducible repeat (first | refine blk_drewN ?_ _ | refine blk_drew ?_ | refine blk_alloc ?_ _)); exact BK143.out); (case side3 => exact GE143.out); (case side4 => exact Kd.V_mono (Kd.R_V (Kd.R_tight rfl (Kd.R_types (HO141.out) BK143.out (by decide)))) (fun k_ hk_ => ⟨hk_, ((Kd.R_types (HO141.out) BK143.out (by decide)).1 k_ hk_.symm).2⟩)); rintro e w13 ⟨v146, rfl, ho0, hbx0, hb, hkp⟩; have n0_ := Aside0.mk (Kd.R_mono (ok' := fun k_ => some k_ ≠ (.slice Ao12 t139.length co12 : Value).ownBlock) (Kd.R_keptB ((Kd.R_types HO138.out BK143.out (by decide))) hkp (fun k_ hk_ hs_ => (hk_.2) hs_)) (fun k_ hk_ => hk_.1.1.2)); have n1_ := Aside0.mk (Kd.R_mono (ok' := fun k_ => some k_ ≠ (.slice Ao9 t135.length co9 : Value).ownBlock) (Kd.R_keptB ((Kd.R_types HO141.out BK143.out (by decide))) hkp (fun k_ hk_ hs_ => (hk_.2) hs_)) (fun k_ hk_ => hk_.1.1.2)); have n2_ := Aside0.mk (hbx0); have n3_ := Aside0.mk (Kd.V_mono (ok' := fun k_ => some k_ ≠ (.slice Ao9 t135.length co9 : Value).ownBlock ∧ k_ ≠ gb143) ho0 (fun k_ hk_ => ⟨Or.elim hk_ (fun hs_ => ((Kd.R_types (HO141.out) BK143.out (by decide)).1 k_ hs_.symm).1.2) (fun hn_ => (Kd.fresh' (Kd.R_lt (by (with_reducible repeat (first | apply Kd.R_alloc | apply Kd.R_drewN | apply Kd.R_drew)); exact HO138.out)) k_ hn_)), Or.elim hk_ (fun hs_ => ((Kd.R_types (HO141.out) BK143.out (by decide)).1 k_ hs_.symm).2) (fun hn_ => (Kd.freshB (g := gb143) (o := .cells #[.slice Ao12 t139.length co12, .int .i64 t142] 50 (0, 0)) (by (with_reducible repeat (first | refine blk_drewN ?_ _ | refine blk_drew ?_ | refine blk_alloc ?_ _)); exact BK143.out) k_ hn_))⟩)); have n4_ := Aside0.mk (hb); clear HO138; clear HO141; clear BK143; clear HB; have HO138 := n0_; have HO141 := n1_; have BK143 := n2_; have HO147 := n3_; have HB := n4_; clear n0_ n1_ n2_ n3_ n4_; (try clear hb); (try clear hkp); (try clear hbx0); (try clear ho0); obtain ⟨Ao14, co14, eo14⟩ := Kd.V_slice HO147.out; subst eo14) | (go_at_call 11; (with_reducible refine (octet_Scan_End.calls gb143 Ao14 co14 t145 t148 t149 w _ ?side1 ?side2 ?side3 ?side4 ?side5 A7.out).mono ?_); (case side1 => repeat (first | (with_reducible first | exact HB.out | apply below_alloc | apply pw_below_drewN | apply below_drew1 | refine below_set ?_ GE143.out) | exact HB.out)); (case side2 => (with_reducible repeat (first | refine blk_drewN ?_ _ | refine blk_drew ?_ | refine blk_alloc ?_ _)); exact BK143.out); (case side3 => exact GE143.out); (case side4 => exact Kd.C_kept_ownV (HO147.out) (fun k_ hk_ hs_ => (hk_.2) hs_)); (case side5 => exact (Kd.V_reads' HO147.out).2.1); rintro e w15 ⟨rfl, hbx0, hb, hkp⟩; have n0_ := Aside0.mk (Kd.R_mono (ok' := fun k_ => some k_ ≠ (.slice Ao12 t139.length co12 : Value).ownBlock) (Kd.R_keptB ((Kd.R_types HO138.out BK143.out (by decide))) hkp (fun k_ hk_ hs_ => (hk_.2) hs_)) (fun k_ hk_ => hk_.1.1)); have n1_ := Aside0.mk (Kd.R_mono (ok' := fun k_ => some k_ ≠ (.slice Ao9 t135.length co9 : Value).ownBlock) (Kd.R_keptB ((Kd.R_types HO141.out BK143.out (by decide))) hkp (fun k_ hk_ hs_ => (hk_.2) hs_)) (fun k_ hk_ => hk_.1.1)); have n2_ := Aside0.mk (hbx0); have n3_ := Aside0.mk (Kd.V_mono (ok' := fun k_ => some k_ ≠ (.slice Ao9 t135.length co9 : Value).ownBlock ∧ k_ ≠ gb143) (Kd.V_keptB (HO147.out) hkp (fun k_ hk_ hs_ => (hk_.2) hs_)) (fun k_ hk_ => ⟨hk_.1.1, hk_.1.2⟩)); have n4_ := Aside0.mk (hb); clear HO138; clear HO141; clear BK143; clear HO147; clear HB; have HO138 := n0_; have HO141 := n1_; have BK143 := n2_; have HO147 := n3_; have HB := n4_; clear n0_ n1_ n2_ n3_ n4_; (try clear hb); (try clear hkp); (try clear hbx0)))
        go_ret
        exact ⟨by first | rfl | (simp [errW_none, errW_some] <;> rfl) | (simp [*, errW_none, errW_some] <;> rfl), by repeat (first | (with_reducible first | exact HB.out | apply below_alloc | apply pw_below_drewN | apply below_drew1 | refine below_set ?_ GE143.out) | exact HB.out)⟩
      · rw [if_neg c6] at H
        have c6b0 : (t144 == 300) = false := beq_eq_false_iff_ne.mpr c6
        have c6b1 : (t144 != 300) = true := bne_iff_ne.mpr c6
        obtain rfl := Option.some.inj H
        go_enter Try.func12, Try.ntmps12
        go_wp2_with (first | ((with_reducible refine gate_callee (f := 8) rfl ?_); refine goesL_ (some 5) rfl rfl Try.func8 (by kernel_rfl) rfl #[.slice none 0 0, .int .i64 300, .int .i64 2] rfl (by (try simp only [List.map_toArray, List.map_cons, List.map_nil]); first | done | rfl | (simp only [List.length_drop, List.length_take]; rfl)) ?_; (refine (octet_Put.calls k _ _ ([] : List Int) 300 2 t135 t136 _ ?side1 ?side2 A1.out).mono ?_); (case side1 => exact Kd.C_nil _ _); (case side2 => exact Nat.le_refl _); rintro e w16 ⟨v137, rfl, ho0, hb⟩; refine ⟨_, rfl, ?_⟩; have n0_ := Aside0.mk (Kd.R_lower ho0 (below_size (by repeat (first | (with_reducible first | exact HB.out | apply below_alloc | apply pw_below_drewN | apply below_drew1) | exact HB.out)))); have n1_ := Aside0.mk (below_step (by repeat (first | (with_reducible first | exact HB.out | apply below_alloc | apply pw_below_drewN | apply below_drew1) | exact HB.out)) hb); clear HB; have HO138 := n0_; have HB := n1_; clear n0_ n1_; (try clear hb); (try clear hb2); (try clear hk); (try clear hi); (try clear ho0); obtain ⟨Ao17, co17, eo17⟩ := Kd.R_slice HO138.out; subst eo17) | ((with_reducible refine gate_callee (f := 9) rfl ?_); refine goesL_ (some 9) rfl rfl Try.func9 (by kernel_rfl) rfl #[.slice Ao17 t135.length co17] rfl (by (try simp only [List.map_toArray, List.map_cons, List.map_nil]); first | done | rfl | (simp only [List.length_drop, List.length_take]; rfl)) ?_; (with_reducible refine (octet_New.calls _ _ t135 t139 t142 _ ?side1 ?side2 A2.out).mono ?_); (case side1 => repeat (first | exact (Kd.R_reads' HO138.out).2.2 | (with_reducible refine Kd.C_alloc ?_ _) | (with_reducible refine Kd.C_drewN ?_ _) | (with_reducible refine Kd.C_drew ?_))); (case side2 => exact (Kd.R_reads' HO138.out).2.1); rintro e w18 ⟨v140, gb143, rfl, ho0, hbox143, hgb143, hb⟩; refine ⟨_, rfl, ?_⟩; have n0_ := Aside0.mk (Kd.R_elder' (by (with_reducible repeat (first | apply Kd.R_alloc | apply Kd.R_drewN | apply Kd.R_drew)); exact HO138.out) (Kd.R_base ho0) hb); have n1_ := Aside0.mk (Kd.R_lower (Kd.R_new' ho0 (Kd.R_lt (by (with_reducible repeat (first | apply Kd.R_alloc | apply Kd.R_drewN | apply Kd.R_drew)); exact HO138.out))) (below_size (by repeat (first | (with_reducible first | exact HB.out | apply below_alloc | apply pw_below_drewN | apply below_drew1) | exact HB.out)))); have n2_ := Aside0.mk (hbox143); have n3_ := Aside0.mk ((Nat.le_trans (below_size (by repeat (first | (with_reducible first | exact HB.out | apply below_alloc | apply pw_below_drewN | apply below_drew1) | exact HB.out))) hgb143 : w.heap.size ≤ gb143)); have n4_ := Aside0.mk ((Nat.le_trans (below_size (by repeat (first | (with_reducible first | exact HB.out | apply below_alloc | apply pw_below_drewN | apply below_drew1) | exact HB.out))) hgb143 : w.heap.size ≤ gb143)); have n5_ := Aside0.mk (below_step (by repeat (first | (with_reducible first | exact HB.out | apply below_alloc | apply pw_below_drewN | apply below_drew1) | exact HB.out)) hb); clear HO138; clear HB; have HO138 := n0_; have HO141 := n1_; have BK143 := n2_; have GW143 := n3_; have GE143 := n4_; have HB := n5_; clear n0_ n1_ n2_ n3_ n4_ n5_; (try clear hb); (try clear hb2); (try clear hk); (try clear hi); (try clear hbox143); (try clear hgb143); (try clear ho0); have hcv19 := own_string (P := Try.prog) Try.underlying24 Try.underlying5 Try.underlying9 (Kd.own_of_R HO138.out); obtain ⟨Ao20, co20, eo20⟩ := Kd.R_slice HO141.out; subst eo20) | (go_at_call 10; (with_reducible refine (octet_Scan_Take.calls k gb143 (fun k_ => some k_ = (.slice Ao20 t139.length co20 : Value).ownBlock) Ao20 co20 t139 t142 2 t144 t145 t148 w _ ?side1 ?side2 ?side3 ?side4 A5.out).mono ?_); (case side1 => repeat (first | (with_reducible first | exact HB.out | apply below_alloc | apply pw_below_drewN | apply below_drew1 | refine below_set ?_ GE143.out) | exact HB.out)); (case side2 => (with_reducible repeat (first | refine blk_drewN ?_ _ | refine blk_drew ?_ | refine blk_alloc ?_ _)); exact BK143.out); (case side3 => exact GE143.out); (case side4 => exact Kd.V_mono (Kd.R_V (Kd.R_tight rfl (Kd.R_types (HO141.out) BK143.out (by decide)))) (fun k_ hk_ => ⟨hk_, ((Kd.R_types (HO141.out) BK143.out (by decide)).1 k_ hk_.symm).2⟩)); rintro e w21 ⟨v146, rfl, ho0, hbx0, hb, hkp⟩; have n0_ := Aside0.mk (Kd.R_mono (ok' := fun k_ => some k_ ≠ (.slice Ao20 t139.length co20 : Value).ownBlock) (Kd.R_keptB ((Kd.R_types HO138.out BK143.out (by decide))) hkp (fun k_ hk_ hs_ => (hk_.2) hs_)) (fun k_ hk_ => hk_.1.1.2)); have n1_ := Aside0.mk (Kd.R_mono (ok' := fun k_ => some k_ ≠ (.slice Ao17 t135.length co17 : Value).ownBlock) (Kd.R_keptB ((Kd.R_types HO141.out BK143.out (by decide))) hkp (fun k_ hk_ hs_ => (hk_.2) hs_)) (fun k_ hk_ => hk_.1.1.2)); have n2_ := Aside0.mk (hbx0); have n3_ := Aside0.mk (Kd.V_mono (ok' := fun k_ => some k_ ≠ (.slice Ao17 t135.length co17 : Value).ownBlock ∧ k_ ≠ gb143) ho0 (fun k_ hk_ => ⟨Or.elim hk_ (fun hs_ => ((Kd.R_types (HO141.out) BK143.out (by decide)).1 k_ hs_.symm).1.2) (fun hn_ => (Kd.fresh' (Kd.R_lt (by (with_reducible repeat (first | apply Kd.R_alloc | apply Kd.R_drewN | apply Kd.R_drew)); exact HO138.out)) k_ hn_)), Or.elim hk_ (fun hs_ => ((Kd.R_types (HO141.out) BK143.out (by decide)).1 k_ hs_.symm).2) (fun hn_ => (Kd.freshB (g := gb143) (o := .cells #[.slice Ao20 t139.length co20, .int .i64 t142] 50 (0, 0)) (by (with_reducible repeat (first | refine blk_drewN ?_ _ | refine blk_drew ?_ | refine blk_alloc ?_ _)); exact BK143.out) k_ hn_))⟩)); have n4_ := Aside0.mk (hb); clear HO138; clear HO141; clear BK143; clear HB; have HO138 := n0_; have HO141 := n1_; have BK143 := n2_; have HO147 := n3_; have HB := n4_; clear n0_ n1_ n2_ n3_ n4_; (try clear hb); (try clear hkp); (try clear hbx0); (try clear ho0)))
        go_ret
        exact ⟨by first | rfl | (simp [errW_none, errW_some] <;> rfl) | (simp [*, errW_none, errW_some] <;> rfl), by repeat (first | (with_reducible first | exact HB.out | apply below_alloc | apply pw_below_drewN | apply below_drew1 | refine below_set ?_ GE143.out) | exact HB.out)⟩
    · rw [if_neg c4] at H
      have c4b0 : ((strOfNums t135).toList == ([1, 44] : List UInt8)) = false := beq_eq_false_iff_ne.mpr c4
      have c4b1 : ((strOfNums t135).toList != ([1, 44] : List UInt8)) = true := bne_iff_ne.mpr c4
      obtain rfl := Option.some.inj H
      go_enter Try.func12, Try.ntmps12
      go_wp2_with (first | ((with_reducible refine gate_callee (f := 8) rfl ?_); refine goesL_ (some 5) rfl rfl Try.func8 (by kernel_rfl) rfl #[.slice none 0 0, .int .i64 300, .int .i64 2] rfl (by (try simp only [List.map_toArray, List.map_cons, List.map_nil]); first | done | rfl | (simp only [List.length_drop, List.length_take]; rfl)) ?_; (refine (octet_Put.calls k _ _ ([] : List Int) 300 2 t135 t136 _ ?side1 ?side2 A1.out).mono ?_); (case side1 => exact Kd.C_nil _ _); (case side2 => exact Nat.le_refl _); rintro e w22 ⟨v137, rfl, ho0, hb⟩; refine ⟨_, rfl, ?_⟩; have n0_ := Aside0.mk (Kd.R_lower ho0 (below_size (by repeat (first | (with_reducible first | exact HB.out | apply below_alloc | apply pw_below_drewN | apply below_drew1) | exact HB.out)))); have n1_ := Aside0.mk (below_step (by repeat (first | (with_reducible first | exact HB.out | apply below_alloc | apply pw_below_drewN | apply below_drew1) | exact HB.out)) hb); clear HB; have HO138 := n0_; have HB := n1_; clear n0_ n1_; (try clear hb); (try clear hb2); (try clear hk); (try clear hi); (try clear ho0); obtain ⟨Ao23, co23, eo23⟩ := Kd.R_slice HO138.out; subst eo23) | ((with_reducible refine gate_callee (f := 9) rfl ?_); refine goesL_ (some 9) rfl rfl Try.func9 (by kernel_rfl) rfl #[.slice Ao23 t135.length co23] rfl (by (try simp only [List.map_toArray, List.map_cons, List.map_nil]); first | done | rfl | (simp only [List.length_drop, List.length_take]; rfl)) ?_; (with_reducible refine (octet_New.calls _ _ t135 t139 t142 _ ?side1 ?side2 A2.out).mono ?_); (case side1 => repeat (first | exact (Kd.R_reads' HO138.out).2.2 | (with_reducible refine Kd.C_alloc ?_ _) | (with_reducible refine Kd.C_drewN ?_ _) | (with_reducible refine Kd.C_drew ?_))); (case side2 => exact (Kd.R_reads' HO138.out).2.1); rintro e w24 ⟨v140, gb143, rfl, ho0, hbox143, hgb143, hb⟩; refine ⟨_, rfl, ?_⟩; have n0_ := Aside0.mk (Kd.R_elder' (by (with_reducible repeat (first | apply Kd.R_alloc | apply Kd.R_drewN | apply Kd.R_drew)); exact HO138.out) (Kd.R_base ho0) hb); have n1_ := Aside0.mk (Kd.R_lower (Kd.R_new' ho0 (Kd.R_lt (by (with_reducible repeat (first | apply Kd.R_alloc | apply Kd.R_drewN | apply Kd.R_drew)); exact HO138.out))) (below_size (by repeat (first | (with_reducible first | exact HB.out | apply below_alloc | apply pw_below_drewN | apply below_drew1) | exact HB.out)))); have n2_ := Aside0.mk (hbox143); have n3_ := Aside0.mk ((Nat.le_trans (below_size (by repeat (first | (with_reducible first | exact HB.out | apply below_alloc | apply pw_below_drewN | apply below_drew1) | exact HB.out))) hgb143 : w.heap.size ≤ gb143)); have n4_ := Aside0.mk ((Nat.le_trans (below_size (by repeat (first | (with_reducible first | exact HB.out | apply below_alloc | apply pw_below_drewN | apply below_drew1) | exact HB.out))) hgb143 : w.heap.size ≤ gb143)); have n5_ := Aside0.mk (below_step (by repeat (first | (with_reducible first | exact HB.out | apply below_alloc | apply pw_below_drewN | apply below_drew1) | exact HB.out)) hb); clear HO138; clear HB; have HO138 := n0_; have HO141 := n1_; have BK143 := n2_; have GW143 := n3_; have GE143 := n4_; have HB := n5_; clear n0_ n1_ n2_ n3_ n4_ n5_; (try clear hb); (try clear hb2); (try clear hk); (try clear hi); (try clear hbox143); (try clear hgb143); (try clear ho0); have hcv25 := own_string (P := Try.prog) Try.underlying24 Try.underlying5 Try.underlying9 (Kd.own_of_R HO138.out)))
      go_ret
      exact ⟨by first | rfl | (simp [errW_none, errW_some] <;> rfl) | (simp [*, errW_none, errW_some] <;> rfl), by repeat (first | (with_reducible first | exact HB.out | apply below_alloc | apply pw_below_drewN | apply below_drew1 | refine below_set ?_ GE143.out) | exact HB.out)⟩
  · rw [if_neg c3] at H
    have c3b0 : (t136 == 0) = false := beq_eq_false_iff_ne.mpr c3
    have c3b1 : (t136 != 0) = true := bne_iff_ne.mpr c3
    obtain rfl := Option.some.inj H
    go_enter Try.func12, Try.ntmps12
    go_wp2_with (first | ((with_reducible refine gate_callee (f := 8) rfl ?_); refine goesL_ (some 5) rfl rfl Try.func8 (by kernel_rfl) rfl #[.slice none 0 0, .int .i64 300, .int .i64 2] rfl (by (try simp only [List.map_toArray, List.map_cons, List.map_nil]); first | done | rfl | (simp only [List.length_drop, List.length_take]; rfl)) ?_; (refine (octet_Put.calls k _ _ ([] : List Int) 300 2 t135 t136 _ ?side1 ?side2 A1.out).mono ?_); (case side1 => exact Kd.C_nil _ _); (case side2 => exact Nat.le_refl _); rintro e w26 ⟨v137, rfl, ho0, hb⟩; refine ⟨_, rfl, ?_⟩; have n0_ := Aside0.mk (Kd.R_lower ho0 (below_size (by repeat (first | (with_reducible first | exact HB.out | apply below_alloc | apply pw_below_drewN | apply below_drew1) | exact HB.out)))); have n1_ := Aside0.mk (below_step (by repeat (first | (with_reducible first | exact HB.out | apply below_alloc | apply pw_below_drewN | apply below_drew1) | exact HB.out)) hb); clear HB; have HO138 := n0_; have HB := n1_; clear n0_ n1_; (try clear hb); (try clear hb2); (try clear hk); (try clear hi); (try clear ho0); obtain ⟨Ao27, co27, eo27⟩ := Kd.R_slice HO138.out; subst eo27) | ((with_reducible refine gate_callee (f := 9) rfl ?_); refine goesL_ (some 9) rfl rfl Try.func9 (by kernel_rfl) rfl #[.slice Ao27 t135.length co27] rfl (by (try simp only [List.map_toArray, List.map_cons, List.map_nil]); first | done | rfl | (simp only [List.length_drop, List.length_take]; rfl)) ?_; (with_reducible refine (octet_New.calls _ _ t135 t139 t142 _ ?side1 ?side2 A2.out).mono ?_); (case side1 => repeat (first | exact (Kd.R_reads' HO138.out).2.2 | (with_reducible refine Kd.C_alloc ?_ _) | (with_reducible refine Kd.C_drewN ?_ _) | (with_reducible refine Kd.C_drew ?_))); (case side2 => exact (Kd.R_reads' HO138.out).2.1); rintro e w28 ⟨v140, gb143, rfl, ho0, hbox143, hgb143, hb⟩; refine ⟨_, rfl, ?_⟩; have n0_ := Aside0.mk (Kd.R_elder' (by (with_reducible repeat (first | apply Kd.R_alloc | apply Kd.R_drewN | apply Kd.R_drew)); exact HO138.out) (Kd.R_base ho0) hb); have n1_ := Aside0.mk (Kd.R_lower (Kd.R_new' ho0 (Kd.R_lt (by (with_reducible repeat (first | apply Kd.R_alloc | apply Kd.R_drewN | apply Kd.R_drew)); exact HO138.out))) (below_size (by repeat (first | (with_reducible first | exact HB.out | apply below_alloc | apply pw_below_drewN | apply below_drew1) | exact HB.out)))); have n2_ := Aside0.mk (hbox143); have n3_ := Aside0.mk ((Nat.le_trans (below_size (by repeat (first | (with_reducible first | exact HB.out | apply below_alloc | apply pw_below_drewN | apply below_drew1) | exact HB.out))) hgb143 : w.heap.size ≤ gb143)); have n4_ := Aside0.mk ((Nat.le_trans (below_size (by repeat (first | (with_reducible first | exact HB.out | apply below_alloc | apply pw_below_drewN | apply below_drew1) | exact HB.out))) hgb143 : w.heap.size ≤ gb143)); have n5_ := Aside0.mk (below_step (by repeat (first | (with_reducible first | exact HB.out | apply below_alloc | apply pw_below_drewN | apply below_drew1) | exact HB.out)) hb); clear HO138; clear HB; have HO138 := n0_; have HO141 := n1_; have BK143 := n2_; have GW143 := n3_; have GE143 := n4_; have HB := n5_; clear n0_ n1_ n2_ n3_ n4_ n5_; (try clear hb); (try clear hb2); (try clear hk); (try clear hi); (try clear hbox143); (try clear hgb143); (try clear ho0)))
    go_ret
    exact ⟨by first | rfl | (simp [errW_none, errW_some] <;> rfl) | (simp [*, errW_none, errW_some] <;> rfl), by repeat (first | (with_reducible first | exact HB.out | apply below_alloc | apply pw_below_drewN | apply below_drew1 | refine below_set ?_ GE143.out) | exact HB.out)⟩

/-! ### octet_Scan_List: function 16 -/
def octet_Scan_List.f (k : Nat) (l0_0 : List Int) (a0_1 : Int) : Option (List Int × List Int × Int) := (octet_Scan_Take.f k l0_0 a0_1 2).bind fun bt150 => (if bt150.1 > (bt150.2.1.length : Int) then ((octet_Scan_wrong.f l0_0 bt150.2.2 5).bind fun t155 => (if t155 = 0 then ((some (([] : List Int) : List Int)).bind fun y156 => (if 0 ≤ bt150.1 then (if bt150.1 ≤ (l0_0.length : Int) then ((some (l0_0.take (bt150.1 : Int).toNat : List Int)).bind fun y159 => (if y156.length + y159.length < 140737488355328 then (some ((y156 ++ y159), (l0_0.drop (bt150.1 : Int).toNat), t155)) else (none))) else (none)) else (none))) else (some (([] : List Int), l0_0, t155)))) else (if bt150.2.2 = 0 then ((some (([] : List Int) : List Int)).bind fun y172 => (if 0 ≤ bt150.1 then (if bt150.1 ≤ (bt150.2.1.length : Int) then ((some (bt150.2.1.take (bt150.1 : Int).toNat : List Int)).bind fun y175 => (if y172.length + y175.length < 140737488355328 then (some ((y172 ++ y175), (bt150.2.1.drop (bt150.1 : Int).toNat), bt150.2.2)) else (none))) else (none)) else (none))) else (some (([] : List Int), bt150.2.1, bt150.2.2))))
theorem octet_Scan_List.mono : ∀ a0 a1 k, LeO (octet_Scan_List.f k a0 a1) (octet_Scan_List.f (k + 1) a0 a1) := by
  intro a0 a1 k
  unfold octet_Scan_List.f
  repeat' first
      | (with_reducible exact octet_Scan_Take.mono _ _ _ _)
      | (with_reducible exact LeO.refl _)
      | (with_reducible exact LeO.none _)
      | (with_reducible refine LeO.ite ?_ ?_)
      | (with_reducible refine LeO.bind ?_ (fun _ => ?_))
      | exact octet_Scan_Take.mono _ _ _ _
      | exact LeO.none _
      | refine LeO.ite ?_ ?_
      | refine LeO.bind ?_ (fun _ => ?_)
set_option maxHeartbeats 8000000 in
set_option maxRecDepth 100000 in
theorem octet_Scan_List.calls (k : Nat) (g0 : Nat) (P0_0_ : Nat → Prop) (A0_0 : Option Addr) (c0_0 : Nat) (l0_0 : List Int) (a0_1 : Int) (r1 : List Int) (r2 : List Int) (r3 : Int) (w0 w : World) (hB : Below w0.heap.size w0 w) (hbx0 : w.heap[g0]? = some (.cells #[.slice A0_0 l0_0.length c0_0, .int .i64 a0_1] 50 (0, 0))) (hge0 : w0.heap.size ≤ g0) (hs0_0 : Kd.V (Kd.int .u8) 5 w w0.heap.size (fun k_ => P0_0_ k_ ∧ k_ ≠ g0) (.slice A0_0 l0_0.length c0_0) l0_0) (h : octet_Scan_List.f k l0_0 a0_1 = some (r1, r2, r3)) :
    Calls Try.prog 16 #[.pointer (some ⟨g0, 0, none⟩)] w fun e w' => ∃ v0_ v1_ : Value, e = .returned (v0_) ∧ Kd.R (Kd.int .u8) 5 w' w0.heap.size (fun k_ => (w.heap.size ≤ k_)) v0_ r1 ∧ Kd.V (Kd.int .u8) 5 w' w0.heap.size (fun k_ => (P0_0_ k_ ∨ w.heap.size ≤ k_) ∧ some k_ ≠ (v0_ : Value).ownBlock) v1_ r2 ∧ w'.heap[g0]? = some (.cells #[v1_, .int .i64 r3] 50 (0, 0)) ∧ Below w0.heap.size w0 w' ∧ Kept w w' (fun k_ => k_ = g0) := by
  have HO0_0 := Aside0.mk (show Kd.V (Kd.int .u8) 5 w w0.heap.size (fun k_ => (P0_0_ k_ ∨ w.heap.size ≤ k_) ∧ k_ ≠ g0) (.slice A0_0 l0_0.length c0_0) l0_0 from Kd.V_mono hs0_0 (fun k_ hk => ⟨.inl hk.1, hk.2⟩))
  have HK := Aside0.mk (Kept.refl w (fun k_ => k_ = g0))
  have BK0 := Aside0.mk hbx0
  have GE0 := Aside0.mk hge0
  clear hbx0 hge0
  have HW0 := Aside0.mk hB.size
  have HB := Aside0.mk hB
  clear hB
  have H : ((octet_Scan_Take.f k l0_0 a0_1 2).bind fun bt150 => (if bt150.1 > (bt150.2.1.length : Int) then ((octet_Scan_wrong.f l0_0 bt150.2.2 5).bind fun t155 => (if t155 = 0 then ((some (([] : List Int) : List Int)).bind fun y156 => (if 0 ≤ bt150.1 then (if bt150.1 ≤ (l0_0.length : Int) then ((some (l0_0.take (bt150.1 : Int).toNat : List Int)).bind fun y159 => (if y156.length + y159.length < 140737488355328 then (some ((y156 ++ y159), (l0_0.drop (bt150.1 : Int).toNat), t155)) else (none))) else (none)) else (none))) else (some (([] : List Int), l0_0, t155)))) else (if bt150.2.2 = 0 then ((some (([] : List Int) : List Int)).bind fun y172 => (if 0 ≤ bt150.1 then (if bt150.1 ≤ (bt150.2.1.length : Int) then ((some (bt150.2.1.take (bt150.1 : Int).toNat : List Int)).bind fun y175 => (if y172.length + y175.length < 140737488355328 then (some ((y172 ++ y175), (bt150.2.1.drop (bt150.1 : Int).toNat), bt150.2.2)) else (none))) else (none)) else (none))) else (some (([] : List Int), bt150.2.1, bt150.2.2))))) = some (r1, r2, r3) := h
  clear h
  replace H := Option.bind_eq_some_iff.mp H
  obtain ⟨⟨t150, t151, t154⟩, A20, H⟩ := H
  replace H : (if t150 > (t151.length : Int) then ((octet_Scan_wrong.f l0_0 t154 5).bind fun t155 => (if t155 = 0 then ((some (([] : List Int) : List Int)).bind fun y156 => (if 0 ≤ t150 then (if t150 ≤ (l0_0.length : Int) then ((some (l0_0.take (t150 : Int).toNat : List Int)).bind fun y159 => (if y156.length + y159.length < 140737488355328 then (some ((y156 ++ y159), (l0_0.drop (t150 : Int).toNat), t155)) else (none))) else (none)) else (none))) else (some (([] : List Int), l0_0, t155)))) else (if t154 = 0 then ((some (([] : List Int) : List Int)).bind fun y172 => (if 0 ≤ t150 then (if t150 ≤ (t151.length : Int) then ((some (t151.take (t150 : Int).toNat : List Int)).bind fun y175 => (if y172.length + y175.length < 140737488355328 then (some ((y172 ++ y175), (t151.drop (t150 : Int).toNat), t154)) else (none))) else (none)) else (none))) else (some (([] : List Int), t151, t154)))) = some (r1, r2, r3) := H
  have A2 := Aside0.mk A20
  clear A20
  by_cases c3 : t150 > (t151.length : Int)
  · rw [if_pos c3] at H
    have c3b0 : decide ((t151.length : Int) < t150) = true := decide_eq_true c3
    clear c3
    replace H := Option.bind_eq_some_iff.mp H
    obtain ⟨t155, A40, H⟩ := H
    replace H : (if t155 = 0 then ((some (([] : List Int) : List Int)).bind fun y156 => (if 0 ≤ t150 then (if t150 ≤ (l0_0.length : Int) then ((some (l0_0.take (t150 : Int).toNat : List Int)).bind fun y159 => (if y156.length + y159.length < 140737488355328 then (some ((y156 ++ y159), (l0_0.drop (t150 : Int).toNat), t155)) else (none))) else (none)) else (none))) else (some (([] : List Int), l0_0, t155))) = some (r1, r2, r3) := H
    have A4 := Aside0.mk A40
    clear A40
    by_cases c5 : t155 = 0
    · rw [if_pos c5] at H
      have c5b0 : (t155 == 0) = true := beq_iff_eq.mpr c5
      have c5b1 : (t155 != 0) = false := bne_eq_false_iff_eq.mpr c5
      clear c5
      obtain ⟨y156, hy156⟩ : ∃ y_ : List Int, y_ = (([] : List Int)) := ⟨_, rfl⟩
      replace H : (if 0 ≤ t150 then (if t150 ≤ (l0_0.length : Int) then ((some (l0_0.take (t150 : Int).toNat : List Int)).bind fun y159 => (if y156.length + y159.length < 140737488355328 then (some ((y156 ++ y159), (l0_0.drop (t150 : Int).toNat), t155)) else (none))) else (none)) else (none)) = some (r1, r2, r3) := by first | (rw [hy156]; with_reducible exact H) | (have H2_ := (Option.bind_some _ _).symm.trans H; rw [hy156]; with_reducible exact H2_) | (have H2_ := (Option.bind_some _ _).symm.trans H; with_reducible exact H2_) | with_reducible exact H | (rw [hy156]; exact H) | exact H
      have Ny156 := Aside0.mk hy156
      clear hy156
      by_cases c6 : 0 ≤ t150
      · rw [if_pos c6] at H
        have c6b0 := eq_true c6
        have c6b1 : decide (0 ≤ t150) = true := decide_eq_true c6
        clear c6
        by_cases c7 : t150 ≤ (l0_0.length : Int)
        · rw [if_pos c7] at H
          have c7b0 := eq_true c7
          have c7b1 : decide (t150 ≤ (l0_0.length : Int)) = true := decide_eq_true c7
          clear c7
          obtain ⟨y159, hy159⟩ : ∃ y_ : List Int, y_ = (l0_0.take (t150 : Int).toNat) := ⟨_, rfl⟩
          replace H : (if y156.length + y159.length < 140737488355328 then (some ((y156 ++ y159), (l0_0.drop (t150 : Int).toNat), t155)) else (none)) = some (r1, r2, r3) := by first | (rw [hy159]; with_reducible exact H) | (have H2_ := (Option.bind_some _ _).symm.trans H; rw [hy159]; with_reducible exact H2_) | (have H2_ := (Option.bind_some _ _).symm.trans H; with_reducible exact H2_) | with_reducible exact H | (rw [hy159]; exact H) | exact H
          have Ny159 := Aside0.mk hy159
          clear hy159
          by_cases c8 : y156.length + y159.length < 140737488355328
          · rw [if_pos c8] at H
            have LMc8 := Aside0.mk c8
            clear c8
            obtain ⟨y164, hy164⟩ : ∃ y_ : List Int, y_ = (y156 ++ y159) := ⟨_, rfl⟩
            replace H : (some (y164, (l0_0.drop (t150 : Int).toNat), t155)) = some (r1, r2, r3) := by first | (rw [hy164]; with_reducible exact H) | (have H2_ := (Option.bind_some _ _).symm.trans H; rw [hy164]; with_reducible exact H2_) | (have H2_ := (Option.bind_some _ _).symm.trans H; with_reducible exact H2_) | with_reducible exact H | (rw [hy164]; exact H) | exact H
            have Ny164 := Aside0.mk hy164
            clear hy164
            have c9b0 := eq_true (of_decide_eq_true (by first | (with_reducible assumption) | assumption) : 0 ≤ t150)
            have c10b0 := eq_true (of_decide_eq_true (by first | (with_reducible assumption) | assumption) : t150 ≤ (l0_0.length : Int))
            obtain ⟨y167, hy167⟩ : ∃ y_ : List Int, y_ = (l0_0.drop (t150 : Int).toNat) := ⟨_, rfl⟩
            replace H : (some (y164, y167, t155)) = some (r1, r2, r3) := by first | (rw [hy167]; with_reducible exact H) | (have H2_ := (Option.bind_some _ _).symm.trans H; rw [hy167]; with_reducible exact H2_) | (have H2_ := (Option.bind_some _ _).symm.trans H; with_reducible exact H2_) | with_reducible exact H | (rw [hy167]; exact H) | exact H
            have Ny167 := Aside0.mk hy167
            clear hy167
            simp only [Option.some.injEq, Prod.mk.injEq] at H
            obtain ⟨rfl, rfl, rfl⟩ := H
            have hcz11_0 : w.cell? ⟨g0, 0, none⟩ = some (.slice A0_0 l0_0.length c0_0) := (blk_cell BK0.out 0).trans rfl
            have hcz11_1 : w.cell? ⟨g0, 1, none⟩ = some (.int .i64 a0_1) := (blk_cell BK0.out 1).trans rfl
            have hfz11_0 := blk_frozen BK0.out 0
            have hfz11_1 := blk_frozen BK0.out 1
            go_enter Try.func16, Try.ntmps16
            go_wp2_with (first | ((with_reducible refine gate_callee (f := 10) rfl ?_); refine goesL_ (some 13) rfl rfl Try.func10 (by kernel_rfl) rfl #[.pointer (some ⟨g0, 0, none⟩), .int .i64 2] rfl (by (try simp only [List.map_toArray, List.map_cons, List.map_nil]); first | done | rfl | (simp only [List.length_drop, List.length_take]; rfl)) ?_; (with_reducible refine (octet_Scan_Take.calls k g0 (fun k_ => ((P0_0_ k_ ∨ w.heap.size ≤ k_) ∧ k_ ≠ g0)) A0_0 c0_0 l0_0 a0_1 2 t150 t151 t154 w0 _ ?side1 ?side2 ?side3 ?side4 A2.out).mono ?_); (case side1 => repeat (first | (with_reducible first | exact HB.out | apply below_alloc | apply pw_below_drewN | apply below_drew1 | refine below_set ?_ GE0.out) | exact HB.out)); (case side2 => (with_reducible repeat (first | refine blk_drewN ?_ _ | refine blk_drew ?_ | refine blk_alloc ?_ _)); exact BK0.out); (case side3 => exact GE0.out); (case side4 => exact Kd.V_mono (HO0_0.out) (fun k_ hk_ => ⟨hk_, hk_.2⟩)); rintro e w12 ⟨v152, rfl, ho0, hbx0, hb, hkp⟩; refine ⟨_, rfl, ?_⟩; have n0_ := Aside0.mk (Kd.V_mono (ok' := fun k_ => (P0_0_ k_ ∨ w.heap.size ≤ k_) ∧ k_ ≠ g0) (Kd.V_keptB (HO0_0.out) hkp (fun k_ hk_ hs_ => (hk_.2) hs_)) (fun k_ hk_ => ⟨hk_.1.1, hk_.1.2⟩)); have n1_ := Aside0.mk (hbx0); have n2_ := Aside0.mk (Kd.V_mono (ok' := fun k_ => (P0_0_ k_ ∨ w.heap.size ≤ k_) ∧ k_ ≠ g0) ho0 (fun k_ hk_ => ⟨Or.elim hk_ (fun hs_ => hs_.1) (fun hn_ => (.inr (Nat.le_trans (by first | exact HK.out.1 | exact (show Kept w _ (fun k_ => k_ = g0) from by repeat (first | (with_reducible first | exact HK.out | apply Kept.alloc | apply Kept.drewN | apply Kept.drew | refine Kept.setCell ?_ (.inl (by exact rfl)) _) | exact HK.out)).1) hn_))), Or.elim hk_ (fun hs_ => hs_.2) (fun hn_ => (Kd.freshB (g := g0) (o := .cells #[.slice A0_0 l0_0.length c0_0, .int .i64 a0_1] 50 (0, 0)) (by (with_reducible repeat (first | refine blk_drewN ?_ _ | refine blk_drew ?_ | refine blk_alloc ?_ _)); exact BK0.out) k_ hn_))⟩)); have n3_ := Aside0.mk (Kept.then_ (S := (fun k_ => k_ = g0)) (by repeat (first | (with_reducible first | exact HK.out | apply Kept.alloc | apply Kept.drewN | apply Kept.drew | refine Kept.setCell ?_ (.inl (by exact rfl)) _) | exact HK.out)) hkp (fun k_ hs_ => (fun e_ => .inl e_) hs_)); have n4_ := Aside0.mk (hb); clear HO0_0; clear BK0; clear HK; clear HB; have HO0_0 := n0_; have BK0 := n1_; have HO153 := n2_; have HK := n3_; have HB := n4_; clear n0_ n1_ n2_ n3_ n4_; (try clear hb); (try clear hkp); (try clear hbx0); (try clear ho0); have hcz13_0 : w12.cell? ⟨g0, 0, none⟩ = some (v152) := (blk_cell BK0.out 0).trans rfl; have hcz13_1 : w12.cell? ⟨g0, 1, none⟩ = some (.int .i64 t154) := (blk_cell BK0.out 1).trans rfl; have hfz13_0 := blk_frozen BK0.out 0; have hfz13_1 := blk_frozen BK0.out 1; obtain ⟨Ao14, co14, eo14⟩ := Kd.V_slice HO153.out; subst eo14) | ((with_reducible refine gate_store (t := 24) (p := 24) rfl ?_); refine store_event (t := 24) (p := 24) (v := ?vo_w15) (w1 := (w12.setCell ⟨g0, 0, none⟩ (.slice A0_0 l0_0.length c0_0))) ?hg ?ho ?hn ?hr ?_; (case ho => rfl); (case hg => rfl); (case hn => rfl); (case hr => first | (go_simp; done) | (go_simp; rfl)); intro w15 hw; have n0_ : Aside0 (Kd.V (Kd.int .u8) 5 w15 w0.heap.size (fun k_ => (P0_0_ k_ ∨ w.heap.size ≤ k_) ∧ k_ ≠ g0) (.slice A0_0 l0_0.length c0_0) l0_0) := ⟨(by rw [hw]; exact (by (with_reducible repeat (first | apply Kd.V_alloc | apply Kd.V_drewN | apply Kd.V_drew)); exact Kd.V_mono (Kd.V_far (p := ⟨g0, 0, none⟩) (Kd.V_mono HO0_0.out (fun k_ hk => (⟨hk, hk.2⟩ : _ ∧ k_ ≠ g0))) (fun _ hk => hk.2) (.slice A0_0 l0_0.length c0_0)) (fun _ hk => ⟨hk.1.1, hk.1.2⟩)))⟩; have n1_ : Aside0 (Kd.V (Kd.int .u8) 5 w15 w0.heap.size (fun k_ => (P0_0_ k_ ∨ w.heap.size ≤ k_) ∧ k_ ≠ g0) (.slice Ao14 t151.length co14) t151) := ⟨(by rw [hw]; exact (by (with_reducible repeat (first | apply Kd.V_alloc | apply Kd.V_drewN | apply Kd.V_drew)); exact Kd.V_mono (Kd.V_far (p := ⟨g0, 0, none⟩) (Kd.V_mono HO153.out (fun k_ hk => (⟨hk, hk.2⟩ : _ ∧ k_ ≠ g0))) (fun _ hk => hk.2) (.slice A0_0 l0_0.length c0_0)) (fun _ hk => ⟨hk.1.1, hk.1.2⟩)))⟩; have n2_ : Aside0 (w15.heap[g0]? = some (.cells #[.slice A0_0 l0_0.length c0_0, .int .i64 t154] 50 (0, 0))) := ⟨(by rw [hw]; exact (by (with_reducible repeat (first | refine blk_drewN ?_ _ | refine blk_drew ?_ | refine blk_alloc ?_ _)); refine blk_put (cs := #[.slice Ao14 t151.length co14, .int .i64 t154]) ?_ 0 _ rfl; (with_reducible repeat (first | refine blk_drewN ?_ _ | refine blk_drew ?_ | refine blk_alloc ?_ _)); exact BK0.out))⟩; have n3_ : Aside0 (Kept w w15 (fun k_ => k_ = g0)) := ⟨(by rw [hw]; exact (by repeat (first | (with_reducible first | exact HK.out | apply Kept.alloc | apply Kept.drewN | apply Kept.drew | refine Kept.setCell ?_ (.inl (by exact rfl)) _) | exact HK.out)))⟩; have n4_ : Aside0 (Below w0.heap.size w0 w15) := ⟨(by rw [hw]; exact (by repeat (first | (with_reducible first | exact HB.out | apply below_alloc | apply pw_below_drewN | apply below_drew1 | refine below_set ?_ GE0.out) | exact HB.out)))⟩; clear hw; clear HO0_0; clear HO153; clear BK0; clear HK; clear HB; have HO0_0 := n0_; have HO153 := n1_; have BK0 := n2_; have HK := n3_; have HB := n4_; clear n0_ n1_ n2_ n3_ n4_) | ((with_reducible refine gate_callee (f := 23) rfl ?_); refine goesL_ (some 26) rfl rfl Try.func23 (by kernel_rfl) rfl #[.pointer (some ⟨g0, 0, none⟩), .int .i64 5] rfl (by (try simp only [List.map_toArray, List.map_cons, List.map_nil]); first | done | rfl | (simp only [List.length_drop, List.length_take]; rfl)) ?_; (with_reducible refine (octet_Scan_wrong.calls g0 A0_0 c0_0 l0_0 t154 5 t155 w0 _ ?side1 ?side2 ?side3 ?side4 ?side5 A4.out).mono ?_); (case side1 => repeat (first | (with_reducible first | exact HB.out | apply below_alloc | apply pw_below_drewN | apply below_drew1 | refine below_set ?_ GE0.out) | exact HB.out)); (case side2 => (with_reducible repeat (first | refine blk_drewN ?_ _ | refine blk_drew ?_ | refine blk_alloc ?_ _)); exact BK0.out); (case side3 => exact GE0.out); (case side4 => exact Kd.C_kept_ownV (HO0_0.out) (fun k_ hk_ hs_ => (hk_.2) hs_)); (case side5 => exact (Kd.V_reads' HO0_0.out).2.1); rintro e w16 ⟨rfl, hbx0, hb, hkp⟩; refine ⟨_, rfl, ?_⟩; have n0_ := Aside0.mk (Kd.V_mono (ok' := fun k_ => (P0_0_ k_ ∨ w.heap.size ≤ k_) ∧ k_ ≠ g0) (Kd.V_keptB (HO0_0.out) hkp (fun k_ hk_ hs_ => (hk_.2) hs_)) (fun k_ hk_ => ⟨hk_.1.1, hk_.1.2⟩)); have n1_ := Aside0.mk (hbx0); have n2_ := Aside0.mk (Kd.V_mono (ok' := fun k_ => (P0_0_ k_ ∨ w.heap.size ≤ k_) ∧ k_ ≠ g0) (Kd.V_keptB (HO153.out) hkp (fun k_ hk_ hs_ => (hk_.2) hs_)) (fun k_ hk_ => ⟨hk_.1.1, hk_.1.2⟩)); have n3_ := Aside0.mk (Kept.then_ (S := (fun k_ => k_ = g0)) (by repeat (first | (with_reducible first | exact HK.out | apply Kept.alloc | apply Kept.drewN | apply Kept.drew | refine Kept.setCell ?_ (.inl (by exact rfl)) _) | exact HK.out)) hkp (fun k_ hs_ => (fun e_ => .inl e_) hs_)); have n4_ := Aside0.mk (hb); clear HO0_0; clear BK0; clear HO153; clear HK; clear HB; have HO0_0 := n0_; have BK0 := n1_; have HO153 := n2_; have HK := n3_; have HB := n4_; clear n0_ n1_ n2_ n3_ n4_; (try clear hb); (try clear hkp); (try clear hbx0); have hcz17_0 : w16.cell? ⟨g0, 0, none⟩ = some (.slice A0_0 l0_0.length c0_0) := (blk_cell BK0.out 0).trans rfl; have hcz17_1 : w16.cell? ⟨g0, 1, none⟩ = some (.int .i64 t155) := (blk_cell BK0.out 1).trans rfl; have hfz17_0 := blk_frozen BK0.out 0; have hfz17_1 := blk_frozen BK0.out 1) | ((with_reducible refine gate_dst (N := 32) rfl ?_); refine Kd.R_lit (Kd.int .u8) _ 5 ?hg (N := 32) ?hd (xs := ([] : List Int)) (inner := []) (ok := fun _ => True) (okp := fun _ => True) ?hr ?hp (fun _ hk => hk) trivial (Below.refl _ _) (Nat.le_refl _) (by simp) ?_; (case hd => rfl); (case hg => rfl); (case hr => first | (go_simp; done) | (go_simp; rfl)); (case hp => exact (Reps.none _ _)); intro v157 w18 ho19 hb hg_ hnew_; clear hg_ hnew_; (first | rw [← Ny156.out] at ho19 | (simp only [Int.reduceToNat] at ho19; rw [← Ny156.out] at ho19)); have n0_ := Aside0.mk (Kd.V_elder' (by (with_reducible repeat (first | apply Kd.V_alloc | apply Kd.V_drewN | apply Kd.V_drew)); exact HO0_0.out) (Kd.R_base ho19) hb); have n1_ := Aside0.mk (Kd.V_elder' (by (with_reducible repeat (first | apply Kd.V_alloc | apply Kd.V_drewN | apply Kd.V_drew)); exact HO153.out) (Kd.R_base ho19) hb); have n2_ := Aside0.mk (Kd.R_lower (Kd.R_newM (M := fun k_ => (w.heap.size ≤ k_)) ho19 (by first | exact HK.out.1 | exact (show Kept w _ (fun k_ => k_ = g0) from by repeat (first | (with_reducible first | exact HK.out | apply Kept.alloc | apply Kept.drewN | apply Kept.drew | refine Kept.setCell ?_ (.inl (by exact rfl)) _) | exact HK.out)).1) (fun k_ h_ => h_)) (below_size (by repeat (first | (with_reducible first | exact HB.out | apply below_alloc | apply pw_below_drewN | apply below_drew1 | refine below_set ?_ GE0.out) | exact HB.out)))); have n3_ := Aside0.mk (blk_below (g := g0) (o := .cells #[.slice A0_0 l0_0.length c0_0, .int .i64 t155] 50 (0, 0)) (by (with_reducible repeat (first | refine blk_drewN ?_ _ | refine blk_drew ?_ | refine blk_alloc ?_ _)); exact BK0.out) hb); have n4_ := Aside0.mk (Kept.below (S := (fun k_ => k_ = g0)) (by repeat (first | (with_reducible first | exact HK.out | apply Kept.alloc | apply Kept.drewN | apply Kept.drew | refine Kept.setCell ?_ (.inl (by exact rfl)) _) | exact HK.out)) hb); have n5_ := Aside0.mk (below_step (by repeat (first | (with_reducible first | exact HB.out | apply below_alloc | apply pw_below_drewN | apply below_drew1 | refine below_set ?_ GE0.out) | exact HB.out)) hb); clear HO0_0; clear HO153; clear BK0; clear HK; clear HB; have HO0_0 := n0_; have HO153 := n1_; have HO158 := n2_; have BK0 := n3_; have HK := n4_; have HB := n5_; clear n0_ n1_ n2_ n3_ n4_ n5_; clear hb ho19; have hcz20_0 : w18.cell? ⟨g0, 0, none⟩ = some (.slice A0_0 l0_0.length c0_0) := (blk_cell BK0.out 0).trans rfl; have hcz20_1 : w18.cell? ⟨g0, 1, none⟩ = some (.int .i64 t155) := (blk_cell BK0.out 1).trans rfl; have hfz20_0 := blk_frozen BK0.out 0; have hfz20_1 := blk_frozen BK0.out 1; have q21 : (t150 : Int) ≤ ((l0_0.length : Int) : Int) := of_decide_eq_true (by first | (with_reducible assumption) | assumption); obtain ⟨i021, hi021, _, hsz21, _⟩ := info_parts info5; have hroom21 : l0_0.length ≤ c0_0 := (Kd.V_reads' HO0_0.out).2.1; have hC21 : Kd.F (Kd.int .u8) _ _ A0_0 l0_0.length l0_0 := (Kd.V_at (base := w0.heap.size) HO0_0.out).2.2; have hcut21 := cut_to (P := Try.prog) 24 5 .i64 Try.underlying24 hi021 A0_0 l0_0.length c0_0 t150 (of_decide_eq_true (by first | (with_reducible assumption) | assumption)) q21 hroom21; have hr21 := Kd.F_take (m := (t150 : Int).toNat) hC21 (by omega); have hy21 : y159.length = (t150 : Int).toNat := (by rw [Ny159.out, List.length_take]; omega); rw [← Ny159.out] at hr21; rw [← hy21] at hcut21; have HO163 := Aside0.mk (show Kd.V (Kd.int .u8) 5 _ w0.heap.size _ (.slice A0_0 y159.length c0_0) y159 from Kd.V_mk (by omega) hr21); have HC163 := Aside0.mk (show y159.length ≤ c0_0 from by omega); clear hr21 hC21 hroom21 hi021 hsz21; have KY21 := Aside0.mk hy21; clear hy21; replace q21 := eq_true q21) | ((with_reducible refine gate_builtin (b := .append) (xs := #[.tmp 32, .tmp 38]) rfl ?_); at_builtin; refine Kd.R_append_rows (Kd.int .u8) (w0 := w0) w0.heap.size rfl (.tmp 32) (.tmp 38) 24 5 (.int .u8 0) 1 rfl Try.underlying24 info5 rfl (by decide) (by omega) v157 y156 y159 _ _ _ (fun k_ => (w.heap.size ≤ k_)) (fun _ => False) rfl rfl ?aO ?aR (fun _ _ h => h) (fun _ h => h.elim) ?aF ?aB ?aS ?aL ?_; (case aR => repeat (first | exact (Kd.V_reads' HO163.out).2.2 | (with_reducible refine Kd.C_alloc ?_ _) | (with_reducible refine Kd.C_drewN ?_ _) | (with_reducible refine Kd.C_drew ?_))); (case aB => exact (by repeat (first | (with_reducible first | exact HB.out | apply below_alloc | apply pw_below_drewN | apply below_drew1 | refine below_set ?_ GE0.out) | exact HB.out))); (case aF => exact (fun k_ hk => (Nat.le_trans (by first | exact HK.out.1 | exact (show Kept w _ (fun k_ => k_ = g0) from by repeat (first | (with_reducible first | exact HK.out | apply Kept.alloc | apply Kept.drewN | apply Kept.drew | refine Kept.setCell ?_ (.inl (by exact rfl)) _) | exact HK.out)).1) hk))); (case aO => exact (by (with_reducible repeat (first | apply Kd.R_alloc | apply Kd.R_drewN | apply Kd.R_drew)); exact Kd.R_mono HO158.out (fun _ hk => hk.1))); (case aS => exact (below_size (by repeat (first | (with_reducible first | exact HB.out | apply below_alloc | apply pw_below_drewN | apply below_drew1 | refine below_set ?_ GE0.out) | exact HB.out)))); (case aL => have := LMc8.out; omega); intro v165 w22 ho hb hg hat; rw [← Ny164.out] at ho; have n0_ := Aside0.mk (Kd.V_afterv (ok := (fun k_ => (P0_0_ k_ ∨ w.heap.size ≤ k_) ∧ k_ ≠ g0)) (by (with_reducible repeat (first | apply Kd.V_alloc | apply Kd.V_drewN | apply Kd.V_drew)); exact HO0_0.out) hg hat); have n1_ := Aside0.mk (blk_grown (g := g0) (o := .cells #[.slice A0_0 l0_0.length c0_0, .int .i64 t155] 50 (0, 0)) (by (with_reducible repeat (first | refine blk_drewN ?_ _ | refine blk_drew ?_ | refine blk_alloc ?_ _)); exact BK0.out) hg (Kd.R_ne HO158.out BK0.out (by decide))); have n2_ := Aside0.mk (Kd.V_afterv (ok := (fun k_ => (P0_0_ k_ ∨ w.heap.size ≤ k_) ∧ k_ ≠ g0)) (by (with_reducible repeat (first | apply Kd.V_alloc | apply Kd.V_drewN | apply Kd.V_drew)); exact HO153.out) hg hat); have n3_ := Aside0.mk (Kd.V_afterv (ok := (fun k_ => (P0_0_ k_ ∨ w.heap.size ≤ k_) ∧ k_ ≠ g0)) (by (with_reducible repeat (first | apply Kd.V_alloc | apply Kd.V_drewN | apply Kd.V_drew)); exact HO163.out) hg hat); have n4_ := Aside0.mk (hb); have n5_ := Aside0.mk (Kept.of_grown (S := (fun k_ => k_ = g0)) hg (by repeat (first | (with_reducible first | exact HK.out | apply Kept.alloc | apply Kept.drewN | apply Kept.drew | refine Kept.setCell ?_ (.inl (by exact rfl)) _) | exact HK.out)) (fun k_ e_ => Or.inr ((HO158.out.1 k_ e_).1))); have n6_ := Aside0.mk (ho); clear HO0_0; clear BK0; clear HO153; clear HO163; clear HB; clear HK; clear HO158; have HO0_0 := n0_; have BK0 := n1_; have HO153 := n2_; have HO163 := n3_; have HB := n4_; have HK := n5_; have HO166 := n6_; clear n0_ n1_ n2_ n3_ n4_ n5_ n6_; clear ho hb hg hat; have hcz23_0 : w22.cell? ⟨g0, 0, none⟩ = some (.slice A0_0 l0_0.length c0_0) := (blk_cell BK0.out 0).trans rfl; have hcz23_1 : w22.cell? ⟨g0, 1, none⟩ = some (.int .i64 t155) := (blk_cell BK0.out 1).trans rfl; have hfz23_0 := blk_frozen BK0.out 0; have hfz23_1 := blk_frozen BK0.out 1; have q24 : (t150 : Int) ≤ ((l0_0.length : Int) : Int) := of_decide_eq_true (by first | (with_reducible assumption) | assumption); obtain ⟨i024, hi024, _, hsz24, _⟩ := info_parts info5; have hroom24 : l0_0.length ≤ c0_0 := (Kd.V_reads' HO0_0.out).2.1; have hC24 : Kd.F (Kd.int .u8) _ _ A0_0 l0_0.length l0_0 := (Kd.V_at (base := w0.heap.size) HO0_0.out).2.2; have q024 : (0 : Int) ≤ (t150 : Int) := of_decide_eq_true (by first | (with_reducible assumption) | assumption); have hcut24 := cut_from (P := Try.prog) 24 5 .i64 Try.underlying24 hi024 1 hsz24 A0_0 l0_0.length c0_0 t150 q024 q24; have hr24 := Kd.F_cut (m := (t150 : Int).toNat) (c := c0_0) hC24 (by omega) hroom24; obtain ⟨A24, hA24⟩ : ∃ A1, A1 = (if c0_0 = (t150 : Int).toNat then A0_0 else (A0_0 : Option Addr).map (·.add ((t150 : Int).toNat * 1))) := ⟨_, rfl⟩; obtain ⟨c24, hc24⟩ : ∃ c1, c1 = c0_0 - (t150 : Int).toNat := ⟨_, rfl⟩; have hy24 : y167.length = l0_0.length - (t150 : Int).toNat := (by rw [Ny167.out, List.length_drop] <;> omega); rw [show (l0_0).drop (t150 : Int).toNat = y167 from Ny167.out.symm] at hr24; replace hr24 : Kd.F (Kd.int .u8) _ _ A24 y167.length y167 := (by rw [hA24]; exact hr24); rw [← hy24, ← hA24, ← hc24] at hcut24; have HO171 := Aside0.mk (show Kd.V (Kd.int .u8) 5 _ w0.heap.size _ (.slice A24 y167.length c24) y167 from Kd.V_mk (by rw [hy24, hc24]; exact Nat.sub_le_sub_right hroom24 _) hr24); have HC171 := Aside0.mk (show y167.length ≤ c24 from by rw [hy24, hc24]; exact Nat.sub_le_sub_right hroom24 _); clear hr24 hC24 hroom24 hi024 hsz24 hc24; have KY24 := Aside0.mk hy24; have KA24 := Aside0.mk hA24; clear hy24 hA24; replace q24 := eq_true q24))
            go_ret
            exact ⟨_, _, by first | rfl | (simp [errW_none, errW_some] <;> rfl) | (simp [*, errW_none, errW_some] <;> rfl), by (with_reducible repeat (first | apply Kd.R_alloc | apply Kd.R_drewN | apply Kd.R_drew)); exact Kd.R_mono (Kd.R_far (p := ⟨g0, 0, none⟩) (Kd.R_types HO166.out BK0.out (by decide)) (fun _ hk => hk.2) (.slice A24 y167.length c24)) (fun _ hk => hk.1), by (with_reducible repeat (first | apply Kd.V_alloc | apply Kd.V_drewN | apply Kd.V_drew)); exact Kd.V_mono (Kd.V_far (p := ⟨g0, 0, none⟩) (Kd.V_mono HO171.out (fun k_ hk => (⟨hk, hk.1.2⟩ : _ ∧ k_ ≠ g0))) (fun _ hk => hk.2) (.slice A24 y167.length c24)) (fun _ hk => ⟨hk.1.1.1, hk.1.2⟩), by (with_reducible repeat (first | refine blk_drewN ?_ _ | refine blk_drew ?_ | refine blk_alloc ?_ _)); refine blk_put (cs := #[.slice A0_0 l0_0.length c0_0, .int .i64 t155]) ?_ 0 _ rfl; (with_reducible repeat (first | refine blk_drewN ?_ _ | refine blk_drew ?_ | refine blk_alloc ?_ _)); exact BK0.out, by repeat (first | (with_reducible first | exact HB.out | apply below_alloc | apply pw_below_drewN | apply below_drew1 | refine below_set ?_ GE0.out) | exact HB.out), by repeat (first | (with_reducible first | exact HK.out | apply Kept.alloc | apply Kept.drewN | apply Kept.drew | refine Kept.setCell ?_ (.inl (by exact rfl)) _) | exact HK.out)⟩
          · rw [if_neg c8] at H
            exact absurd H (by simp)
        · rw [if_neg c7] at H
          exact absurd H (by simp)
      · rw [if_neg c6] at H
        exact absurd H (by simp)
    · rw [if_neg c5] at H
      have c5b0 : (t155 == 0) = false := beq_eq_false_iff_ne.mpr c5
      have c5b1 : (t155 != 0) = true := bne_iff_ne.mpr c5
      simp only [Option.some.injEq, Prod.mk.injEq] at H
      obtain ⟨rfl, rfl, rfl⟩ := H
      have hcz25_0 : w.cell? ⟨g0, 0, none⟩ = some (.slice A0_0 l0_0.length c0_0) := (blk_cell BK0.out 0).trans rfl
      have hcz25_1 : w.cell? ⟨g0, 1, none⟩ = some (.int .i64 a0_1) := (blk_cell BK0.out 1).trans rfl
      have hfz25_0 := blk_frozen BK0.out 0
      have hfz25_1 := blk_frozen BK0.out 1
      go_enter Try.func16, Try.ntmps16
      go_wp2_with (first | ((with_reducible refine gate_callee (f := 10) rfl ?_); refine goesL_ (some 13) rfl rfl Try.func10 (by kernel_rfl) rfl #[.pointer (some ⟨g0, 0, none⟩), .int .i64 2] rfl (by (try simp only [List.map_toArray, List.map_cons, List.map_nil]); first | done | rfl | (simp only [List.length_drop, List.length_take]; rfl)) ?_; (with_reducible refine (octet_Scan_Take.calls k g0 (fun k_ => ((P0_0_ k_ ∨ w.heap.size ≤ k_) ∧ k_ ≠ g0)) A0_0 c0_0 l0_0 a0_1 2 t150 t151 t154 w0 _ ?side1 ?side2 ?side3 ?side4 A2.out).mono ?_); (case side1 => repeat (first | (with_reducible first | exact HB.out | apply below_alloc | apply pw_below_drewN | apply below_drew1 | refine below_set ?_ GE0.out) | exact HB.out)); (case side2 => (with_reducible repeat (first | refine blk_drewN ?_ _ | refine blk_drew ?_ | refine blk_alloc ?_ _)); exact BK0.out); (case side3 => exact GE0.out); (case side4 => exact Kd.V_mono (HO0_0.out) (fun k_ hk_ => ⟨hk_, hk_.2⟩)); rintro e w26 ⟨v152, rfl, ho0, hbx0, hb, hkp⟩; refine ⟨_, rfl, ?_⟩; have n0_ := Aside0.mk (Kd.V_mono (ok' := fun k_ => (P0_0_ k_ ∨ w.heap.size ≤ k_) ∧ k_ ≠ g0) (Kd.V_keptB (HO0_0.out) hkp (fun k_ hk_ hs_ => (hk_.2) hs_)) (fun k_ hk_ => ⟨hk_.1.1, hk_.1.2⟩)); have n1_ := Aside0.mk (hbx0); have n2_ := Aside0.mk (Kd.V_mono (ok' := fun k_ => (P0_0_ k_ ∨ w.heap.size ≤ k_) ∧ k_ ≠ g0) ho0 (fun k_ hk_ => ⟨Or.elim hk_ (fun hs_ => hs_.1) (fun hn_ => (.inr (Nat.le_trans (by first | exact HK.out.1 | exact (show Kept w _ (fun k_ => k_ = g0) from by repeat (first | (with_reducible first | exact HK.out | apply Kept.alloc | apply Kept.drewN | apply Kept.drew | refine Kept.setCell ?_ (.inl (by exact rfl)) _) | exact HK.out)).1) hn_))), Or.elim hk_ (fun hs_ => hs_.2) (fun hn_ => (Kd.freshB (g := g0) (o := .cells #[.slice A0_0 l0_0.length c0_0, .int .i64 a0_1] 50 (0, 0)) (by (with_reducible repeat (first | refine blk_drewN ?_ _ | refine blk_drew ?_ | refine blk_alloc ?_ _)); exact BK0.out) k_ hn_))⟩)); have n3_ := Aside0.mk (Kept.then_ (S := (fun k_ => k_ = g0)) (by repeat (first | (with_reducible first | exact HK.out | apply Kept.alloc | apply Kept.drewN | apply Kept.drew | refine Kept.setCell ?_ (.inl (by exact rfl)) _) | exact HK.out)) hkp (fun k_ hs_ => (fun e_ => .inl e_) hs_)); have n4_ := Aside0.mk (hb); clear HO0_0; clear BK0; clear HK; clear HB; have HO0_0 := n0_; have BK0 := n1_; have HO153 := n2_; have HK := n3_; have HB := n4_; clear n0_ n1_ n2_ n3_ n4_; (try clear hb); (try clear hkp); (try clear hbx0); (try clear ho0); have hcz27_0 : w26.cell? ⟨g0, 0, none⟩ = some (v152) := (blk_cell BK0.out 0).trans rfl; have hcz27_1 : w26.cell? ⟨g0, 1, none⟩ = some (.int .i64 t154) := (blk_cell BK0.out 1).trans rfl; have hfz27_0 := blk_frozen BK0.out 0; have hfz27_1 := blk_frozen BK0.out 1; obtain ⟨Ao28, co28, eo28⟩ := Kd.V_slice HO153.out; subst eo28) | ((with_reducible refine gate_store (t := 24) (p := 24) rfl ?_); refine store_event (t := 24) (p := 24) (v := ?vo_w29) (w1 := (w26.setCell ⟨g0, 0, none⟩ (.slice A0_0 l0_0.length c0_0))) ?hg ?ho ?hn ?hr ?_; (case ho => rfl); (case hg => rfl); (case hn => rfl); (case hr => first | (go_simp; done) | (go_simp; rfl)); intro w29 hw; have n0_ : Aside0 (Kd.V (Kd.int .u8) 5 w29 w0.heap.size (fun k_ => (P0_0_ k_ ∨ w.heap.size ≤ k_) ∧ k_ ≠ g0) (.slice A0_0 l0_0.length c0_0) l0_0) := ⟨(by rw [hw]; exact (by (with_reducible repeat (first | apply Kd.V_alloc | apply Kd.V_drewN | apply Kd.V_drew)); exact Kd.V_mono (Kd.V_far (p := ⟨g0, 0, none⟩) (Kd.V_mono HO0_0.out (fun k_ hk => (⟨hk, hk.2⟩ : _ ∧ k_ ≠ g0))) (fun _ hk => hk.2) (.slice A0_0 l0_0.length c0_0)) (fun _ hk => ⟨hk.1.1, hk.1.2⟩)))⟩; have n1_ : Aside0 (Kd.V (Kd.int .u8) 5 w29 w0.heap.size (fun k_ => (P0_0_ k_ ∨ w.heap.size ≤ k_) ∧ k_ ≠ g0) (.slice Ao28 t151.length co28) t151) := ⟨(by rw [hw]; exact (by (with_reducible repeat (first | apply Kd.V_alloc | apply Kd.V_drewN | apply Kd.V_drew)); exact Kd.V_mono (Kd.V_far (p := ⟨g0, 0, none⟩) (Kd.V_mono HO153.out (fun k_ hk => (⟨hk, hk.2⟩ : _ ∧ k_ ≠ g0))) (fun _ hk => hk.2) (.slice A0_0 l0_0.length c0_0)) (fun _ hk => ⟨hk.1.1, hk.1.2⟩)))⟩; have n2_ : Aside0 (w29.heap[g0]? = some (.cells #[.slice A0_0 l0_0.length c0_0, .int .i64 t154] 50 (0, 0))) := ⟨(by rw [hw]; exact (by (with_reducible repeat (first | refine blk_drewN ?_ _ | refine blk_drew ?_ | refine blk_alloc ?_ _)); refine blk_put (cs := #[.slice Ao28 t151.length co28, .int .i64 t154]) ?_ 0 _ rfl; (with_reducible repeat (first | refine blk_drewN ?_ _ | refine blk_drew ?_ | refine blk_alloc ?_ _)); exact BK0.out))⟩; have n3_ : Aside0 (Kept w w29 (fun k_ => k_ = g0)) := ⟨(by rw [hw]; exact (by repeat (first | (with_reducible first | exact HK.out | apply Kept.alloc | apply Kept.drewN | apply Kept.drew | refine Kept.setCell ?_ (.inl (by exact rfl)) _) | exact HK.out)))⟩; have n4_ : Aside0 (Below w0.heap.size w0 w29) := ⟨(by rw [hw]; exact (by repeat (first | (with_reducible first | exact HB.out | apply below_alloc | apply pw_below_drewN | apply below_drew1 | refine below_set ?_ GE0.out) | exact HB.out)))⟩; clear hw; clear HO0_0; clear HO153; clear BK0; clear HK; clear HB; have HO0_0 := n0_; have HO153 := n1_; have BK0 := n2_; have HK := n3_; have HB := n4_; clear n0_ n1_ n2_ n3_ n4_) | ((with_reducible refine gate_callee (f := 23) rfl ?_); refine goesL_ (some 26) rfl rfl Try.func23 (by kernel_rfl) rfl #[.pointer (some ⟨g0, 0, none⟩), .int .i64 5] rfl (by (try simp only [List.map_toArray, List.map_cons, List.map_nil]); first | done | rfl | (simp only [List.length_drop, List.length_take]; rfl)) ?_; (with_reducible refine (octet_Scan_wrong.calls g0 A0_0 c0_0 l0_0 t154 5 t155 w0 _ ?side1 ?side2 ?side3 ?side4 ?side5 A4.out).mono ?_); (case side1 => repeat (first | (with_reducible first | exact HB.out | apply below_alloc | apply pw_below_drewN | apply below_drew1 | refine below_set ?_ GE0.out) | exact HB.out)); (case side2 => (with_reducible repeat (first | refine blk_drewN ?_ _ | refine blk_drew ?_ | refine blk_alloc ?_ _)); exact BK0.out); (case side3 => exact GE0.out); (case side4 => exact Kd.C_kept_ownV (HO0_0.out) (fun k_ hk_ hs_ => (hk_.2) hs_)); (case side5 => exact (Kd.V_reads' HO0_0.out).2.1); rintro e w30 ⟨rfl, hbx0, hb, hkp⟩; refine ⟨_, rfl, ?_⟩; have n0_ := Aside0.mk (Kd.V_mono (ok' := fun k_ => (P0_0_ k_ ∨ w.heap.size ≤ k_) ∧ k_ ≠ g0) (Kd.V_keptB (HO0_0.out) hkp (fun k_ hk_ hs_ => (hk_.2) hs_)) (fun k_ hk_ => ⟨hk_.1.1, hk_.1.2⟩)); have n1_ := Aside0.mk (hbx0); have n2_ := Aside0.mk (Kd.V_mono (ok' := fun k_ => (P0_0_ k_ ∨ w.heap.size ≤ k_) ∧ k_ ≠ g0) (Kd.V_keptB (HO153.out) hkp (fun k_ hk_ hs_ => (hk_.2) hs_)) (fun k_ hk_ => ⟨hk_.1.1, hk_.1.2⟩)); have n3_ := Aside0.mk (Kept.then_ (S := (fun k_ => k_ = g0)) (by repeat (first | (with_reducible first | exact HK.out | apply Kept.alloc | apply Kept.drewN | apply Kept.drew | refine Kept.setCell ?_ (.inl (by exact rfl)) _) | exact HK.out)) hkp (fun k_ hs_ => (fun e_ => .inl e_) hs_)); have n4_ := Aside0.mk (hb); clear HO0_0; clear BK0; clear HO153; clear HK; clear HB; have HO0_0 := n0_; have BK0 := n1_; have HO153 := n2_; have HK := n3_; have HB := n4_; clear n0_ n1_ n2_ n3_ n4_; (try clear hb); (try clear hkp); (try clear hbx0); have hcz31_0 : w30.cell? ⟨g0, 0, none⟩ = some (.slice A0_0 l0_0.length c0_0) := (blk_cell BK0.out 0).trans rfl; have hcz31_1 : w30.cell? ⟨g0, 1, none⟩ = some (.int .i64 t155) := (blk_cell BK0.out 1).trans rfl; have hfz31_0 := blk_frozen BK0.out 0; have hfz31_1 := blk_frozen BK0.out 1))
      go_ret
      exact ⟨_, _, by first | rfl | (simp [errW_none, errW_some] <;> rfl) | (simp [*, errW_none, errW_some] <;> rfl), by first | exact Kd.R_nil _ _ _ _ _ | exact Kd.N_nil _ _ _ _ _ | exact Kd.V_nil _ _ _ _ _ | exact Kd.Q_nil _ _ _ _ _ | exact Kd.S_nil _ _ _ _ _, by (with_reducible repeat (first | apply Kd.V_alloc | apply Kd.V_drewN | apply Kd.V_drew)); exact Kd.V_mono HO0_0.out (fun _ hk => ⟨hk.1, (by simp [Value.ownBlock])⟩), by (with_reducible repeat (first | refine blk_drewN ?_ _ | refine blk_drew ?_ | refine blk_alloc ?_ _)); exact BK0.out, by repeat (first | (with_reducible first | exact HB.out | apply below_alloc | apply pw_below_drewN | apply below_drew1 | refine below_set ?_ GE0.out) | exact HB.out), by repeat (first | (with_reducible first | exact HK.out | apply Kept.alloc | apply Kept.drewN | apply Kept.drew | refine Kept.setCell ?_ (.inl (by exact rfl)) _) | exact HK.out)⟩
  · rw [if_neg c3] at H
    have c3b0 : decide ((t151.length : Int) < t150) = false := decide_eq_false c3
    clear c3
    by_cases c32 : t154 = 0
    · rw [if_pos c32] at H
      have c32b0 : (t154 == 0) = true := beq_iff_eq.mpr c32
      have c32b1 : (t154 != 0) = false := bne_eq_false_iff_eq.mpr c32
      clear c32
      obtain ⟨y172, hy172⟩ : ∃ y_ : List Int, y_ = (([] : List Int)) := ⟨_, rfl⟩
      replace H : (if 0 ≤ t150 then (if t150 ≤ (t151.length : Int) then ((some (t151.take (t150 : Int).toNat : List Int)).bind fun y175 => (if y172.length + y175.length < 140737488355328 then (some ((y172 ++ y175), (t151.drop (t150 : Int).toNat), t154)) else (none))) else (none)) else (none)) = some (r1, r2, r3) := by first | (rw [hy172]; with_reducible exact H) | (have H2_ := (Option.bind_some _ _).symm.trans H; rw [hy172]; with_reducible exact H2_) | (have H2_ := (Option.bind_some _ _).symm.trans H; with_reducible exact H2_) | with_reducible exact H | (rw [hy172]; exact H) | exact H
      have Ny172 := Aside0.mk hy172
      clear hy172
      by_cases c33 : 0 ≤ t150
      · rw [if_pos c33] at H
        have c33b0 := eq_true c33
        have c33b1 : decide (0 ≤ t150) = true := decide_eq_true c33
        clear c33
        by_cases c34 : t150 ≤ (t151.length : Int)
        · rw [if_pos c34] at H
          have c34b0 := eq_true c34
          have c34b1 : decide (t150 ≤ (t151.length : Int)) = true := decide_eq_true c34
          clear c34
          obtain ⟨y175, hy175⟩ : ∃ y_ : List Int, y_ = (t151.take (t150 : Int).toNat) := ⟨_, rfl⟩
          replace H : (if y172.length + y175.length < 140737488355328 then (some ((y172 ++ y175), (t151.drop (t150 : Int).toNat), t154)) else (none)) = some (r1, r2, r3) := by first | (rw [hy175]; with_reducible exact H) | (have H2_ := (Option.bind_some _ _).symm.trans H; rw [hy175]; with_reducible exact H2_) | (have H2_ := (Option.bind_some _ _).symm.trans H; with_reducible exact H2_) | with_reducible exact H | (rw [hy175]; exact H) | exact H
          have Ny175 := Aside0.mk hy175
          clear hy175
          by_cases c35 : y172.length + y175.length < 140737488355328
          · rw [if_pos c35] at H
            have LMc35 := Aside0.mk c35
            clear c35
            obtain ⟨y180, hy180⟩ : ∃ y_ : List Int, y_ = (y172 ++ y175) := ⟨_, rfl⟩
            replace H : (some (y180, (t151.drop (t150 : Int).toNat), t154)) = some (r1, r2, r3) := by first | (rw [hy180]; with_reducible exact H) | (have H2_ := (Option.bind_some _ _).symm.trans H; rw [hy180]; with_reducible exact H2_) | (have H2_ := (Option.bind_some _ _).symm.trans H; with_reducible exact H2_) | with_reducible exact H | (rw [hy180]; exact H) | exact H
            have Ny180 := Aside0.mk hy180
            clear hy180
            have c36b0 := eq_true (of_decide_eq_true (by first | (with_reducible assumption) | assumption) : 0 ≤ t150)
            have c37b0 := eq_true (of_decide_eq_true (by first | (with_reducible assumption) | assumption) : t150 ≤ (t151.length : Int))
            obtain ⟨y183, hy183⟩ : ∃ y_ : List Int, y_ = (t151.drop (t150 : Int).toNat) := ⟨_, rfl⟩
            replace H : (some (y180, y183, t154)) = some (r1, r2, r3) := by first | (rw [hy183]; with_reducible exact H) | (have H2_ := (Option.bind_some _ _).symm.trans H; rw [hy183]; with_reducible exact H2_) | (have H2_ := (Option.bind_some _ _).symm.trans H; with_reducible exact H2_) | with_reducible exact H | (rw [hy183]; exact H) | exact H
            have Ny183 := Aside0.mk hy183
            clear hy183
            simp only [Option.some.injEq, Prod.mk.injEq] at H
            obtain ⟨rfl, rfl, rfl⟩ := H
            have hcz38_0 : w.cell? ⟨g0, 0, none⟩ = some (.slice A0_0 l0_0.length c0_0) := (blk_cell BK0.out 0).trans rfl
            have hcz38_1 : w.cell? ⟨g0, 1, none⟩ = some (.int .i64 a0_1) := (blk_cell BK0.out 1).trans rfl
            have hfz38_0 := blk_frozen BK0.out 0
            have hfz38_1 := blk_frozen BK0.out 1
            go_enter Try.func16, Try.ntmps16
            go_wp2_with (first | ((with_reducible refine gate_callee (f := 10) rfl ?_); refine goesL_ (some 13) rfl rfl Try.func10 (by kernel_rfl) rfl #[.pointer (some ⟨g0, 0, none⟩), .int .i64 2] rfl (by (try simp only [List.map_toArray, List.map_cons, List.map_nil]); first | done | rfl | (simp only [List.length_drop, List.length_take]; rfl)) ?_; (with_reducible refine (octet_Scan_Take.calls k g0 (fun k_ => ((P0_0_ k_ ∨ w.heap.size ≤ k_) ∧ k_ ≠ g0)) A0_0 c0_0 l0_0 a0_1 2 t150 t151 t154 w0 _ ?side1 ?side2 ?side3 ?side4 A2.out).mono ?_); (case side1 => repeat (first | (with_reducible first | exact HB.out | apply below_alloc | apply pw_below_drewN | apply below_drew1 | refine below_set ?_ GE0.out) | exact HB.out)); (case side2 => (with_reducible repeat (first | refine blk_drewN ?_ _ | refine blk_drew ?_ | refine blk_alloc ?_ _)); exact BK0.out); (case side3 => exact GE0.out); (case side4 => exact Kd.V_mono (HO0_0.out) (fun k_ hk_ => ⟨hk_, hk_.2⟩)); rintro e w39 ⟨v152, rfl, ho0, hbx0, hb, hkp⟩; refine ⟨_, rfl, ?_⟩; have n0_ := Aside0.mk (Kd.V_mono (ok' := fun k_ => (P0_0_ k_ ∨ w.heap.size ≤ k_) ∧ k_ ≠ g0) (Kd.V_keptB (HO0_0.out) hkp (fun k_ hk_ hs_ => (hk_.2) hs_)) (fun k_ hk_ => ⟨hk_.1.1, hk_.1.2⟩)); have n1_ := Aside0.mk (hbx0); have n2_ := Aside0.mk (Kd.V_mono (ok' := fun k_ => (P0_0_ k_ ∨ w.heap.size ≤ k_) ∧ k_ ≠ g0) ho0 (fun k_ hk_ => ⟨Or.elim hk_ (fun hs_ => hs_.1) (fun hn_ => (.inr (Nat.le_trans (by first | exact HK.out.1 | exact (show Kept w _ (fun k_ => k_ = g0) from by repeat (first | (with_reducible first | exact HK.out | apply Kept.alloc | apply Kept.drewN | apply Kept.drew | refine Kept.setCell ?_ (.inl (by exact rfl)) _) | exact HK.out)).1) hn_))), Or.elim hk_ (fun hs_ => hs_.2) (fun hn_ => (Kd.freshB (g := g0) (o := .cells #[.slice A0_0 l0_0.length c0_0, .int .i64 a0_1] 50 (0, 0)) (by (with_reducible repeat (first | refine blk_drewN ?_ _ | refine blk_drew ?_ | refine blk_alloc ?_ _)); exact BK0.out) k_ hn_))⟩)); have n3_ := Aside0.mk (Kept.then_ (S := (fun k_ => k_ = g0)) (by repeat (first | (with_reducible first | exact HK.out | apply Kept.alloc | apply Kept.drewN | apply Kept.drew | refine Kept.setCell ?_ (.inl (by exact rfl)) _) | exact HK.out)) hkp (fun k_ hs_ => (fun e_ => .inl e_) hs_)); have n4_ := Aside0.mk (hb); clear HO0_0; clear BK0; clear HK; clear HB; have HO0_0 := n0_; have BK0 := n1_; have HO153 := n2_; have HK := n3_; have HB := n4_; clear n0_ n1_ n2_ n3_ n4_; (try clear hb); (try clear hkp); (try clear hbx0); (try clear ho0); have hcz40_0 : w39.cell? ⟨g0, 0, none⟩ = some (v152) := (blk_cell BK0.out 0).trans rfl; have hcz40_1 : w39.cell? ⟨g0, 1, none⟩ = some (.int .i64 t154) := (blk_cell BK0.out 1).trans rfl; have hfz40_0 := blk_frozen BK0.out 0; have hfz40_1 := blk_frozen BK0.out 1; obtain ⟨Ao41, co41, eo41⟩ := Kd.V_slice HO153.out; subst eo41) | ((with_reducible refine gate_dst (N := 32) rfl ?_); refine Kd.R_lit (Kd.int .u8) _ 5 ?hg (N := 32) ?hd (xs := ([] : List Int)) (inner := []) (ok := fun _ => True) (okp := fun _ => True) ?hr ?hp (fun _ hk => hk) trivial (Below.refl _ _) (Nat.le_refl _) (by simp) ?_; (case hd => rfl); (case hg => rfl); (case hr => first | (go_simp; done) | (go_simp; rfl)); (case hp => exact (Reps.none _ _)); intro v173 w42 ho43 hb hg_ hnew_; clear hg_ hnew_; (first | rw [← Ny172.out] at ho43 | (simp only [Int.reduceToNat] at ho43; rw [← Ny172.out] at ho43)); have n0_ := Aside0.mk (Kd.V_elder' (by (with_reducible repeat (first | apply Kd.V_alloc | apply Kd.V_drewN | apply Kd.V_drew)); exact HO0_0.out) (Kd.R_base ho43) hb); have n1_ := Aside0.mk (Kd.V_elder' (by (with_reducible repeat (first | apply Kd.V_alloc | apply Kd.V_drewN | apply Kd.V_drew)); exact HO153.out) (Kd.R_base ho43) hb); have n2_ := Aside0.mk (Kd.R_lower (Kd.R_newM (M := fun k_ => (w.heap.size ≤ k_)) ho43 (by first | exact HK.out.1 | exact (show Kept w _ (fun k_ => k_ = g0) from by repeat (first | (with_reducible first | exact HK.out | apply Kept.alloc | apply Kept.drewN | apply Kept.drew | refine Kept.setCell ?_ (.inl (by exact rfl)) _) | exact HK.out)).1) (fun k_ h_ => h_)) (below_size (by repeat (first | (with_reducible first | exact HB.out | apply below_alloc | apply pw_below_drewN | apply below_drew1 | refine below_set ?_ GE0.out) | exact HB.out)))); have n3_ := Aside0.mk (blk_below (g := g0) (o := .cells #[.slice Ao41 t151.length co41, .int .i64 t154] 50 (0, 0)) (by (with_reducible repeat (first | refine blk_drewN ?_ _ | refine blk_drew ?_ | refine blk_alloc ?_ _)); exact BK0.out) hb); have n4_ := Aside0.mk (Kept.below (S := (fun k_ => k_ = g0)) (by repeat (first | (with_reducible first | exact HK.out | apply Kept.alloc | apply Kept.drewN | apply Kept.drew | refine Kept.setCell ?_ (.inl (by exact rfl)) _) | exact HK.out)) hb); have n5_ := Aside0.mk (below_step (by repeat (first | (with_reducible first | exact HB.out | apply below_alloc | apply pw_below_drewN | apply below_drew1 | refine below_set ?_ GE0.out) | exact HB.out)) hb); clear HO0_0; clear HO153; clear BK0; clear HK; clear HB; have HO0_0 := n0_; have HO153 := n1_; have HO174 := n2_; have BK0 := n3_; have HK := n4_; have HB := n5_; clear n0_ n1_ n2_ n3_ n4_ n5_; clear hb ho43; have hcz44_0 : w42.cell? ⟨g0, 0, none⟩ = some (.slice Ao41 t151.length co41) := (blk_cell BK0.out 0).trans rfl; have hcz44_1 : w42.cell? ⟨g0, 1, none⟩ = some (.int .i64 t154) := (blk_cell BK0.out 1).trans rfl; have hfz44_0 := blk_frozen BK0.out 0; have hfz44_1 := blk_frozen BK0.out 1; have q45 : (t150 : Int) ≤ ((t151.length : Int) : Int) := of_decide_eq_true (by first | (with_reducible assumption) | assumption); obtain ⟨i045, hi045, _, hsz45, _⟩ := info_parts info5; have hroom45 : t151.length ≤ co41 := (Kd.V_reads' HO153.out).2.1; have hC45 : Kd.F (Kd.int .u8) _ _ Ao41 t151.length t151 := (Kd.V_at (base := w0.heap.size) HO153.out).2.2; have hcut45 := cut_to (P := Try.prog) 24 5 .i64 Try.underlying24 hi045 Ao41 t151.length co41 t150 (of_decide_eq_true (by first | (with_reducible assumption) | assumption)) q45 hroom45; have hr45 := Kd.F_take (m := (t150 : Int).toNat) hC45 (by omega); have hy45 : y175.length = (t150 : Int).toNat := (by rw [Ny175.out, List.length_take]; omega); rw [← Ny175.out] at hr45; rw [← hy45] at hcut45; have HO179 := Aside0.mk (show Kd.V (Kd.int .u8) 5 _ w0.heap.size _ (.slice Ao41 y175.length co41) y175 from Kd.V_mk (by omega) hr45); have HC179 := Aside0.mk (show y175.length ≤ co41 from by omega); clear hr45 hC45 hroom45 hi045 hsz45; have KY45 := Aside0.mk hy45; clear hy45; replace q45 := eq_true q45) | ((with_reducible refine gate_builtin (b := .append) (xs := #[.tmp 32, .tmp 38]) rfl ?_); at_builtin; refine Kd.R_append_rows (Kd.int .u8) (w0 := w0) w0.heap.size rfl (.tmp 32) (.tmp 38) 24 5 (.int .u8 0) 1 rfl Try.underlying24 info5 rfl (by decide) (by omega) v173 y172 y175 _ _ _ (fun k_ => (w.heap.size ≤ k_)) (fun _ => False) rfl rfl ?aO ?aR (fun _ _ h => h) (fun _ h => h.elim) ?aF ?aB ?aS ?aL ?_; (case aR => repeat (first | exact (Kd.V_reads' HO179.out).2.2 | (with_reducible refine Kd.C_alloc ?_ _) | (with_reducible refine Kd.C_drewN ?_ _) | (with_reducible refine Kd.C_drew ?_))); (case aB => exact (by repeat (first | (with_reducible first | exact HB.out | apply below_alloc | apply pw_below_drewN | apply below_drew1 | refine below_set ?_ GE0.out) | exact HB.out))); (case aF => exact (fun k_ hk => (Nat.le_trans (by first | exact HK.out.1 | exact (show Kept w _ (fun k_ => k_ = g0) from by repeat (first | (with_reducible first | exact HK.out | apply Kept.alloc | apply Kept.drewN | apply Kept.drew | refine Kept.setCell ?_ (.inl (by exact rfl)) _) | exact HK.out)).1) hk))); (case aO => exact (by (with_reducible repeat (first | apply Kd.R_alloc | apply Kd.R_drewN | apply Kd.R_drew)); exact Kd.R_mono HO174.out (fun _ hk => hk.1))); (case aS => exact (below_size (by repeat (first | (with_reducible first | exact HB.out | apply below_alloc | apply pw_below_drewN | apply below_drew1 | refine below_set ?_ GE0.out) | exact HB.out)))); (case aL => have := LMc35.out; omega); intro v181 w46 ho hb hg hat; rw [← Ny180.out] at ho; have n0_ := Aside0.mk (Kd.V_afterv (ok := (fun k_ => (P0_0_ k_ ∨ w.heap.size ≤ k_) ∧ k_ ≠ g0)) (by (with_reducible repeat (first | apply Kd.V_alloc | apply Kd.V_drewN | apply Kd.V_drew)); exact HO0_0.out) hg hat); have n1_ := Aside0.mk (blk_grown (g := g0) (o := .cells #[.slice Ao41 t151.length co41, .int .i64 t154] 50 (0, 0)) (by (with_reducible repeat (first | refine blk_drewN ?_ _ | refine blk_drew ?_ | refine blk_alloc ?_ _)); exact BK0.out) hg (Kd.R_ne HO174.out BK0.out (by decide))); have n2_ := Aside0.mk (Kd.V_afterv (ok := (fun k_ => (P0_0_ k_ ∨ w.heap.size ≤ k_) ∧ k_ ≠ g0)) (by (with_reducible repeat (first | apply Kd.V_alloc | apply Kd.V_drewN | apply Kd.V_drew)); exact HO153.out) hg hat); have n3_ := Aside0.mk (Kd.V_afterv (ok := (fun k_ => (P0_0_ k_ ∨ w.heap.size ≤ k_) ∧ k_ ≠ g0)) (by (with_reducible repeat (first | apply Kd.V_alloc | apply Kd.V_drewN | apply Kd.V_drew)); exact HO179.out) hg hat); have n4_ := Aside0.mk (hb); have n5_ := Aside0.mk (Kept.of_grown (S := (fun k_ => k_ = g0)) hg (by repeat (first | (with_reducible first | exact HK.out | apply Kept.alloc | apply Kept.drewN | apply Kept.drew | refine Kept.setCell ?_ (.inl (by exact rfl)) _) | exact HK.out)) (fun k_ e_ => Or.inr ((HO174.out.1 k_ e_).1))); have n6_ := Aside0.mk (ho); clear HO0_0; clear BK0; clear HO153; clear HO179; clear HB; clear HK; clear HO174; have HO0_0 := n0_; have BK0 := n1_; have HO153 := n2_; have HO179 := n3_; have HB := n4_; have HK := n5_; have HO182 := n6_; clear n0_ n1_ n2_ n3_ n4_ n5_ n6_; clear ho hb hg hat; have hcz47_0 : w46.cell? ⟨g0, 0, none⟩ = some (.slice Ao41 t151.length co41) := (blk_cell BK0.out 0).trans rfl; have hcz47_1 : w46.cell? ⟨g0, 1, none⟩ = some (.int .i64 t154) := (blk_cell BK0.out 1).trans rfl; have hfz47_0 := blk_frozen BK0.out 0; have hfz47_1 := blk_frozen BK0.out 1; have q48 : (t150 : Int) ≤ ((t151.length : Int) : Int) := of_decide_eq_true (by first | (with_reducible assumption) | assumption); obtain ⟨i048, hi048, _, hsz48, _⟩ := info_parts info5; have hroom48 : t151.length ≤ co41 := (Kd.V_reads' HO153.out).2.1; have hC48 : Kd.F (Kd.int .u8) _ _ Ao41 t151.length t151 := (Kd.V_at (base := w0.heap.size) HO153.out).2.2; have q048 : (0 : Int) ≤ (t150 : Int) := of_decide_eq_true (by first | (with_reducible assumption) | assumption); have hcut48 := cut_from (P := Try.prog) 24 5 .i64 Try.underlying24 hi048 1 hsz48 Ao41 t151.length co41 t150 q048 q48; have hr48 := Kd.F_cut (m := (t150 : Int).toNat) (c := co41) hC48 (by omega) hroom48; obtain ⟨A48, hA48⟩ : ∃ A1, A1 = (if co41 = (t150 : Int).toNat then Ao41 else (Ao41 : Option Addr).map (·.add ((t150 : Int).toNat * 1))) := ⟨_, rfl⟩; obtain ⟨c48, hc48⟩ : ∃ c1, c1 = co41 - (t150 : Int).toNat := ⟨_, rfl⟩; have hy48 : y183.length = t151.length - (t150 : Int).toNat := (by rw [Ny183.out, List.length_drop] <;> omega); rw [show (t151).drop (t150 : Int).toNat = y183 from Ny183.out.symm] at hr48; replace hr48 : Kd.F (Kd.int .u8) _ _ A48 y183.length y183 := (by rw [hA48]; exact hr48); rw [← hy48, ← hA48, ← hc48] at hcut48; have HO187 := Aside0.mk (show Kd.V (Kd.int .u8) 5 _ w0.heap.size _ (.slice A48 y183.length c48) y183 from Kd.V_mk (by rw [hy48, hc48]; exact Nat.sub_le_sub_right hroom48 _) hr48); have HC187 := Aside0.mk (show y183.length ≤ c48 from by rw [hy48, hc48]; exact Nat.sub_le_sub_right hroom48 _); clear hr48 hC48 hroom48 hi048 hsz48 hc48; have KY48 := Aside0.mk hy48; have KA48 := Aside0.mk hA48; clear hy48 hA48; replace q48 := eq_true q48))
            go_ret
            exact ⟨_, _, by first | rfl | (simp [errW_none, errW_some] <;> rfl) | (simp [*, errW_none, errW_some] <;> rfl), by (with_reducible repeat (first | apply Kd.R_alloc | apply Kd.R_drewN | apply Kd.R_drew)); exact Kd.R_mono (Kd.R_far (p := ⟨g0, 0, none⟩) (Kd.R_types HO182.out BK0.out (by decide)) (fun _ hk => hk.2) (.slice A48 y183.length c48)) (fun _ hk => hk.1), by (with_reducible repeat (first | apply Kd.V_alloc | apply Kd.V_drewN | apply Kd.V_drew)); exact Kd.V_mono (Kd.V_far (p := ⟨g0, 0, none⟩) (Kd.V_mono HO187.out (fun k_ hk => (⟨hk, hk.1.2⟩ : _ ∧ k_ ≠ g0))) (fun _ hk => hk.2) (.slice A48 y183.length c48)) (fun _ hk => ⟨hk.1.1.1, hk.1.2⟩), by (with_reducible repeat (first | refine blk_drewN ?_ _ | refine blk_drew ?_ | refine blk_alloc ?_ _)); refine blk_put (cs := #[.slice Ao41 t151.length co41, .int .i64 t154]) ?_ 0 _ rfl; (with_reducible repeat (first | refine blk_drewN ?_ _ | refine blk_drew ?_ | refine blk_alloc ?_ _)); exact BK0.out, by repeat (first | (with_reducible first | exact HB.out | apply below_alloc | apply pw_below_drewN | apply below_drew1 | refine below_set ?_ GE0.out) | exact HB.out), by repeat (first | (with_reducible first | exact HK.out | apply Kept.alloc | apply Kept.drewN | apply Kept.drew | refine Kept.setCell ?_ (.inl (by exact rfl)) _) | exact HK.out)⟩
          · rw [if_neg c35] at H
            exact absurd H (by simp)
        · rw [if_neg c34] at H
          exact absurd H (by simp)
      · rw [if_neg c33] at H
        exact absurd H (by simp)
    · rw [if_neg c32] at H
      have c32b0 : (t154 == 0) = false := beq_eq_false_iff_ne.mpr c32
      have c32b1 : (t154 != 0) = true := bne_iff_ne.mpr c32
      simp only [Option.some.injEq, Prod.mk.injEq] at H
      obtain ⟨rfl, rfl, rfl⟩ := H
      have hcz49_0 : w.cell? ⟨g0, 0, none⟩ = some (.slice A0_0 l0_0.length c0_0) := (blk_cell BK0.out 0).trans rfl
      have hcz49_1 : w.cell? ⟨g0, 1, none⟩ = some (.int .i64 a0_1) := (blk_cell BK0.out 1).trans rfl
      have hfz49_0 := blk_frozen BK0.out 0
      have hfz49_1 := blk_frozen BK0.out 1
      go_enter Try.func16, Try.ntmps16
      go_wp2_with (first | ((with_reducible refine gate_callee (f := 10) rfl ?_); refine goesL_ (some 13) rfl rfl Try.func10 (by kernel_rfl) rfl #[.pointer (some ⟨g0, 0, none⟩), .int .i64 2] rfl (by (try simp only [List.map_toArray, List.map_cons, List.map_nil]); first | done | rfl | (simp only [List.length_drop, List.length_take]; rfl)) ?_; (with_reducible refine (octet_Scan_Take.calls k g0 (fun k_ => ((P0_0_ k_ ∨ w.heap.size ≤ k_) ∧ k_ ≠ g0)) A0_0 c0_0 l0_0 a0_1 2 t150 t151 t154 w0 _ ?side1 ?side2 ?side3 ?side4 A2.out).mono ?_); (case side1 => repeat (first | (with_reducible first | exact HB.out | apply below_alloc | apply pw_below_drewN | apply below_drew1 | refine below_set ?_ GE0.out) | exact HB.out)); (case side2 => (with_reducible repeat (first | refine blk_drewN ?_ _ | refine blk_drew ?_ | refine blk_alloc ?_ _)); exact BK0.out); (case side3 => exact GE0.out); (case side4 => exact Kd.V_mono (HO0_0.out) (fun k_ hk_ => ⟨hk_, hk_.2⟩)); rintro e w50 ⟨v152, rfl, ho0, hbx0, hb, hkp⟩; refine ⟨_, rfl, ?_⟩; have n0_ := Aside0.mk (Kd.V_mono (ok' := fun k_ => (P0_0_ k_ ∨ w.heap.size ≤ k_) ∧ k_ ≠ g0) (Kd.V_keptB (HO0_0.out) hkp (fun k_ hk_ hs_ => (hk_.2) hs_)) (fun k_ hk_ => ⟨hk_.1.1, hk_.1.2⟩)); have n1_ := Aside0.mk (hbx0); have n2_ := Aside0.mk (Kd.V_mono (ok' := fun k_ => (P0_0_ k_ ∨ w.heap.size ≤ k_) ∧ k_ ≠ g0) ho0 (fun k_ hk_ => ⟨Or.elim hk_ (fun hs_ => hs_.1) (fun hn_ => (.inr (Nat.le_trans (by first | exact HK.out.1 | exact (show Kept w _ (fun k_ => k_ = g0) from by repeat (first | (with_reducible first | exact HK.out | apply Kept.alloc | apply Kept.drewN | apply Kept.drew | refine Kept.setCell ?_ (.inl (by exact rfl)) _) | exact HK.out)).1) hn_))), Or.elim hk_ (fun hs_ => hs_.2) (fun hn_ => (Kd.freshB (g := g0) (o := .cells #[.slice A0_0 l0_0.length c0_0, .int .i64 a0_1] 50 (0, 0)) (by (with_reducible repeat (first | refine blk_drewN ?_ _ | refine blk_drew ?_ | refine blk_alloc ?_ _)); exact BK0.out) k_ hn_))⟩)); have n3_ := Aside0.mk (Kept.then_ (S := (fun k_ => k_ = g0)) (by repeat (first | (with_reducible first | exact HK.out | apply Kept.alloc | apply Kept.drewN | apply Kept.drew | refine Kept.setCell ?_ (.inl (by exact rfl)) _) | exact HK.out)) hkp (fun k_ hs_ => (fun e_ => .inl e_) hs_)); have n4_ := Aside0.mk (hb); clear HO0_0; clear BK0; clear HK; clear HB; have HO0_0 := n0_; have BK0 := n1_; have HO153 := n2_; have HK := n3_; have HB := n4_; clear n0_ n1_ n2_ n3_ n4_; (try clear hb); (try clear hkp); (try clear hbx0); (try clear ho0); have hcz51_0 : w50.cell? ⟨g0, 0, none⟩ = some (v152) := (blk_cell BK0.out 0).trans rfl; have hcz51_1 : w50.cell? ⟨g0, 1, none⟩ = some (.int .i64 t154) := (blk_cell BK0.out 1).trans rfl; have hfz51_0 := blk_frozen BK0.out 0; have hfz51_1 := blk_frozen BK0.out 1; obtain ⟨Ao52, co52, eo52⟩ := Kd.V_slice HO153.out; subst eo52))
      go_ret
      exact ⟨_, _, by first | rfl | (simp [errW_none, errW_some] <;> rfl) | (simp [*, errW_none, errW_some] <;> rfl), by first | exact Kd.R_nil _ _ _ _ _ | exact Kd.N_nil _ _ _ _ _ | exact Kd.V_nil _ _ _ _ _ | exact Kd.Q_nil _ _ _ _ _ | exact Kd.S_nil _ _ _ _ _, by (with_reducible repeat (first | apply Kd.V_alloc | apply Kd.V_drewN | apply Kd.V_drew)); exact Kd.V_mono HO153.out (fun _ hk => ⟨hk.1, (by simp [Value.ownBlock])⟩), by (with_reducible repeat (first | refine blk_drewN ?_ _ | refine blk_drew ?_ | refine blk_alloc ?_ _)); exact BK0.out, by repeat (first | (with_reducible first | exact HB.out | apply below_alloc | apply pw_below_drewN | apply below_drew1 | refine below_set ?_ GE0.out) | exact HB.out), by repeat (first | (with_reducible first | exact HK.out | apply Kept.alloc | apply Kept.drewN | apply Kept.drew | refine Kept.setCell ?_ (.inl (by exact rfl)) _) | exact HK.out)⟩

/-! ### withyref02_number: function 24 -/
def withyref02_number.l0 : Nat → List Int → Int → Int → Option (Int)
  | 0, _, _, _ => none
  | k + 1, x0, x3, x4 => if x4 < (x0.length : Int) then (if 0 ≤ x4 then (withyref02_number.l0 k x0 (wrap64 ((wrap64 (x3 * 256)) + (wrap64 (rd x0 x4)))) (wrap64 (x4 + 1))) else (none)) else (some x3)
def withyref02_number.f (k : Nat) (l0 : List Int) : Option (Int) := withyref02_number.l0 k l0 0 0
theorem withyref02_number.mono_l : ∀ k, (∀ y0 y1 y2, LeO (withyref02_number.l0 k y0 y1 y2) (withyref02_number.l0 (k + 1) y0 y1 y2))
  | 0 => fun _ _ _ r h => by simp [withyref02_number.l0] at h
  | k + 1 => by
    have ih0 := withyref02_number.mono_l k
    · intro y0 y1 y2
      unfold withyref02_number.l0
      repeat' first
      | (with_reducible exact ih0 _ _ _)
      | (with_reducible exact LeO.refl _)
      | (with_reducible exact LeO.none _)
      | (with_reducible refine LeO.ite ?_ ?_)
      | (with_reducible refine LeO.bind ?_ (fun _ => ?_))
      | exact ih0 _ _ _
      | exact LeO.none _
      | refine LeO.ite ?_ ?_
      | refine LeO.bind ?_ (fun _ => ?_)
theorem withyref02_number.mono : ∀ a0 k, LeO (withyref02_number.f k a0) (withyref02_number.f (k + 1) a0) := by
  intro a0 k
  have ih0 := withyref02_number.mono_l k
  unfold withyref02_number.f
  repeat' first
      | (with_reducible exact ih0 _ _ _)
      | (with_reducible exact LeO.refl _)
      | (with_reducible exact LeO.none _)
      | (with_reducible refine LeO.ite ?_ ?_)
      | (with_reducible refine LeO.bind ?_ (fun _ => ?_))
      | exact ih0 _ _ _
      | exact LeO.none _
      | refine LeO.ite ?_ ?_
      | refine LeO.bind ?_ (fun _ => ?_)
set_option maxHeartbeats 8000000 in
set_option maxRecDepth 100000 in
theorem withyref02_number.calls (k : Nat) (A0 : Option Addr) (c0 : Nat) (l0 : List Int) (r : Int) (w : World) (hr0 : Kd.C (Kd.int .u8) w A0 l0.length l0) (hc0 : l0.length ≤ c0) (h : withyref02_number.f k l0 = some r) :
    Calls Try.prog 24 #[.slice A0 l0.length c0] w fun e w' => e = .returned (.int .i64 r) ∧ Drawn0 w w' := by
  have HR0 := Aside0.mk hr0
  have HC0 := Aside0.mk hc0
  clear hr0 hc0
  have H : (withyref02_number.l0 k l0 0 0) = some r := h
  clear h
  have H' := Aside0.mk H
  clear H
  go_enter Try.func24, Try.ntmps24
  go_wp2
  go_loopg [3, 4] k (fun kq v3 v4 w' => ∃ (x3_1 : Int) (x4_1 : Int), v3 = .int .i64 x3_1 ∧ v4 = .int .i64 x4_1 ∧ Aside0 (withyref02_number.l0 kq l0 x3_1 x4_1 = some r) ∧ Aside0 (kq ≤ k) ∧ Drawn0 w w')
  case atStart => exact ⟨(0), (0), (by first | rfl | (simp; done) | (simp [*]; done) | (congr 1; omega) | (simp; omega)), (by first | rfl | (simp; done) | (simp [*]; done) | (congr 1; omega) | (simp; omega)), H', ⟨Nat.le_refl _⟩, by repeat (first | exact Drawn0.refl _ | apply Drawn0.step)⟩
  case round =>
    clear H'
    obtain ⟨x3_1, x4_1, rfl, rfl, HA, HK1, ⟨m1, rfl⟩⟩ := hrel
    cases gk with
    | zero => exact absurd HA.out (by simp [withyref02_number.l0])
    | succ k1 =>
      have H := HA.out
      clear HA
      simp only [withyref02_number.l0] at H
      by_cases c2 : x4_1 < (l0.length : Int)
      · rw [if_pos c2] at H
        have c2b0 : decide (x4_1 < (l0.length : Int)) = true := decide_eq_true c2
        clear c2
        by_cases c3 : 0 ≤ x4_1
        · rw [if_pos c3] at H
          have c3b0 : decide (0 ≤ x4_1) = true := decide_eq_true c3
          clear c3
          have H' := Aside0.mk H
          clear H
          have p188 : 0 ≤ (x4_1 : Int) := of_decide_eq_true (by first | (with_reducible assumption) | assumption)
          have q188 : x4_1 < (l0.length : Int) := of_decide_eq_true (by first | (with_reducible assumption) | assumption)
          obtain ⟨ad188, e188, hx188_0⟩ := Kd.at_int HR0.out x4_1 p188 q188
          cases e188
          replace p188 := eq_true p188
          replace q188 := eq_true q188
          go_wp2
          go_roundg k1
          case measure => have := HK1.out; omega
          case rel => exact ⟨(wrap64 ((wrap64 (x3_1 * 256)) + (wrap64 (rd l0 x4_1)))), (wrap64 (x4_1 + 1)), (by first | rfl | (simp; done) | (simp [*]; done) | (congr 1; omega) | (simp; omega)), (by first | rfl | (simp; done) | (simp [*]; done) | (congr 1; omega) | (simp; omega)), H', ⟨by have := HK1.out; omega⟩, by repeat (first | exact Drawn0.refl _ | apply Drawn0.step)⟩
        · rw [if_neg c3] at H
          exact absurd H (by simp)
      · rw [if_neg c2] at H
        have c2b0 : decide (x4_1 < (l0.length : Int)) = false := decide_eq_false c2
        clear c2
        obtain rfl := Option.some.inj H
        go_wp2
        go_ret
        exact ⟨by first | rfl | (simp; done) | (simp [*]; done) | (congr 1; omega) | (simp; omega), by repeat (first | exact Drawn0.refl _ | apply Drawn0.step)⟩

/-! ### withyref02_TakeList: function 17 -/
def withyref02_TakeList.f (k : Nat) (l0_0 : List Int) (a0_1 : Int) : Option (List Int × List Int × Int) := if a0_1 = 0 then (if (l0_0.length : Int) < 2 then (some (([] : List Int), l0_0, 5)) else (if 2 ≤ (l0_0.length : Int) then ((withyref02_number.f k (l0_0.take 2)).bind fun t194 => (if (wrap64 ((l0_0.length : Int) - 2)) < t194 then (some (([] : List Int), l0_0, 5)) else (if 2 ≤ (wrap64 (2 + t194)) then (if (wrap64 (2 + t194)) ≤ (l0_0.length : Int) then (if 0 ≤ (wrap64 (2 + t194)) then (some (((l0_0.take ((wrap64 (2 + t194)) : Int).toNat).drop 2), (l0_0.drop ((wrap64 (2 + t194)) : Int).toNat), a0_1)) else (none)) else (none)) else (none)))) else (none))) else (some (([] : List Int), l0_0, a0_1))
theorem withyref02_TakeList.mono : ∀ a0 a1 k, LeO (withyref02_TakeList.f k a0 a1) (withyref02_TakeList.f (k + 1) a0 a1) := by
  intro a0 a1 k
  unfold withyref02_TakeList.f
  repeat' first
      | (with_reducible exact withyref02_number.mono _ _)
      | (with_reducible exact LeO.refl _)
      | (with_reducible exact LeO.none _)
      | (with_reducible refine LeO.ite ?_ ?_)
      | (with_reducible refine LeO.bind ?_ (fun _ => ?_))
      | exact withyref02_number.mono _ _
      | exact LeO.none _
      | refine LeO.ite ?_ ?_
      | refine LeO.bind ?_ (fun _ => ?_)
set_option maxHeartbeats 8000000 in
set_option maxRecDepth 100000 in
theorem withyref02_TakeList.calls (k : Nat) (g0 : Nat) (P0_0_ : Nat → Prop) (A0_0 : Option Addr) (c0_0 : Nat) (l0_0 : List Int) (a0_1 : Int) (r1 : List Int) (r2 : List Int) (r3 : Int) (w0 w : World) (hB : Below w0.heap.size w0 w) (hbx0 : w.heap[g0]? = some (.cells #[.slice A0_0 l0_0.length c0_0, .int .i64 a0_1] 40 (0, 0))) (hge0 : w0.heap.size ≤ g0) (hs0_0 : Kd.V (Kd.int .u8) 5 w w0.heap.size (fun k_ => P0_0_ k_ ∧ k_ ≠ g0) (.slice A0_0 l0_0.length c0_0) l0_0) (h : withyref02_TakeList.f k l0_0 a0_1 = some (r1, r2, r3)) :
    Calls Try.prog 17 #[.pointer (some ⟨g0, 0, none⟩)] w fun e w' => ∃ v0_ v1_ : Value, e = .returned (v0_) ∧ Kd.V (Kd.int .u8) 5 w' w0.heap.size (fun k_ => (P0_0_ k_ ∨ w.heap.size ≤ k_)) v0_ r1 ∧ Kd.V (Kd.int .u8) 5 w' w0.heap.size (fun k_ => (P0_0_ k_ ∨ w.heap.size ≤ k_)) v1_ r2 ∧ w'.heap[g0]? = some (.cells #[v1_, .int .i64 r3] 40 (0, 0)) ∧ Below w0.heap.size w0 w' ∧ Kept w w' (fun k_ => k_ = g0) := by
  have HO0_0 := Aside0.mk (show Kd.V (Kd.int .u8) 5 w w0.heap.size (fun k_ => (P0_0_ k_ ∨ w.heap.size ≤ k_) ∧ k_ ≠ g0) (.slice A0_0 l0_0.length c0_0) l0_0 from Kd.V_mono hs0_0 (fun k_ hk => ⟨.inl hk.1, hk.2⟩))
  have HK := Aside0.mk (Kept.refl w (fun k_ => k_ = g0))
  have BK0 := Aside0.mk hbx0
  have GE0 := Aside0.mk hge0
  clear hbx0 hge0
  have HW0 := Aside0.mk hB.size
  have HB := Aside0.mk hB
  clear hB
  have H : (if a0_1 = 0 then (if (l0_0.length : Int) < 2 then (some (([] : List Int), l0_0, 5)) else (if 2 ≤ (l0_0.length : Int) then ((withyref02_number.f k (l0_0.take 2)).bind fun t194 => (if (wrap64 ((l0_0.length : Int) - 2)) < t194 then (some (([] : List Int), l0_0, 5)) else (if 2 ≤ (wrap64 (2 + t194)) then (if (wrap64 (2 + t194)) ≤ (l0_0.length : Int) then (if 0 ≤ (wrap64 (2 + t194)) then (some (((l0_0.take ((wrap64 (2 + t194)) : Int).toNat).drop 2), (l0_0.drop ((wrap64 (2 + t194)) : Int).toNat), a0_1)) else (none)) else (none)) else (none)))) else (none))) else (some (([] : List Int), l0_0, a0_1))) = some (r1, r2, r3) := h
  clear h
  by_cases c2 : a0_1 = 0
  · rw [if_pos c2] at H
    have c2b0 : (a0_1 == 0) = true := beq_iff_eq.mpr c2
    have c2b1 : (a0_1 != 0) = false := bne_eq_false_iff_eq.mpr c2
    clear c2
    by_cases c3 : (l0_0.length : Int) < 2
    · rw [if_pos c3] at H
      have c3b0 : decide ((l0_0.length : Int) < 2) = true := decide_eq_true c3
      have c3b1 : decide (l0_0.length < 2) = true := decide_eq_true (by omega)
      clear c3
      simp only [Option.some.injEq, Prod.mk.injEq] at H
      obtain ⟨rfl, rfl, rfl⟩ := H
      have hcz4_0 : w.cell? ⟨g0, 0, none⟩ = some (.slice A0_0 l0_0.length c0_0) := (blk_cell BK0.out 0).trans rfl
      have hcz4_1 : w.cell? ⟨g0, 1, none⟩ = some (.int .i64 a0_1) := (blk_cell BK0.out 1).trans rfl
      have hfz4_0 := blk_frozen BK0.out 0
      have hfz4_1 := blk_frozen BK0.out 1
      go_enter Try.func17, Try.ntmps17
      go_wp2
      repeat (go_quiet (fail); try go_wp2)
      go_ret
      exact ⟨_, _, by first | rfl | (simp [errW_none, errW_some] <;> rfl) | (simp [*, errW_none, errW_some] <;> rfl), Kd.V_nil _ _ _ _ _, by (with_reducible repeat (first | apply Kd.V_alloc | apply Kd.V_drewN | apply Kd.V_drew)); exact Kd.V_mono (Kd.V_far (p := ⟨g0, 1, none⟩) (Kd.V_mono HO0_0.out (fun k_ hk => (⟨hk, hk.2⟩ : _ ∧ k_ ≠ g0))) (fun _ hk => hk.2) (.int .i64 5)) (fun _ hk => hk.1.1), by (with_reducible repeat (first | refine blk_drewN ?_ _ | refine blk_drew ?_ | refine blk_alloc ?_ _)); refine blk_put (cs := #[.slice A0_0 l0_0.length c0_0, .int .i64 a0_1]) ?_ 1 _ rfl; (with_reducible repeat (first | refine blk_drewN ?_ _ | refine blk_drew ?_ | refine blk_alloc ?_ _)); exact BK0.out, by repeat (first | (with_reducible first | exact HB.out | apply below_alloc | apply pw_below_drewN | apply below_drew1 | refine below_set ?_ GE0.out) | exact HB.out), by repeat (first | (with_reducible first | exact HK.out | apply Kept.alloc | apply Kept.drewN | apply Kept.drew | refine Kept.setCell ?_ (.inl (by exact rfl)) _) | exact HK.out)⟩
    · rw [if_neg c3] at H
      have c3b0 : decide ((l0_0.length : Int) < 2) = false := decide_eq_false c3
      have c3b1 : decide (l0_0.length < 2) = false := decide_eq_false (by omega)
      clear c3
      by_cases c5 : 2 ≤ (l0_0.length : Int)
      · rw [if_pos c5] at H
        have c5b0 := eq_true c5
        have c5b1 : decide (2 ≤ (l0_0.length : Int)) = true := decide_eq_true c5
        clear c5
        obtain ⟨y189, hy189⟩ : ∃ y_ : List Int, y_ = (l0_0.take 2) := ⟨_, rfl⟩
        replace H : ((withyref02_number.f k y189).bind fun t194 => (if (wrap64 ((l0_0.length : Int) - 2)) < t194 then (some (([] : List Int), l0_0, 5)) else (if 2 ≤ (wrap64 (2 + t194)) then (if (wrap64 (2 + t194)) ≤ (l0_0.length : Int) then (if 0 ≤ (wrap64 (2 + t194)) then (some (((l0_0.take ((wrap64 (2 + t194)) : Int).toNat).drop 2), (l0_0.drop ((wrap64 (2 + t194)) : Int).toNat), a0_1)) else (none)) else (none)) else (none)))) = some (r1, r2, r3) := by first | (rw [hy189]; with_reducible exact H) | (have H2_ := (Option.bind_some _ _).symm.trans H; rw [hy189]; with_reducible exact H2_) | (have H2_ := (Option.bind_some _ _).symm.trans H; with_reducible exact H2_) | with_reducible exact H | (rw [hy189]; exact H) | exact H
        have Ny189 := Aside0.mk hy189
        clear hy189
        replace H := Option.bind_eq_some_iff.mp H
        obtain ⟨t194, A60, H⟩ := H
        replace H : (if (wrap64 ((l0_0.length : Int) - 2)) < t194 then (some (([] : List Int), l0_0, 5)) else (if 2 ≤ (wrap64 (2 + t194)) then (if (wrap64 (2 + t194)) ≤ (l0_0.length : Int) then (if 0 ≤ (wrap64 (2 + t194)) then (some (((l0_0.take ((wrap64 (2 + t194)) : Int).toNat).drop 2), (l0_0.drop ((wrap64 (2 + t194)) : Int).toNat), a0_1)) else (none)) else (none)) else (none))) = some (r1, r2, r3) := H
        have A6 := Aside0.mk A60
        clear A60
        by_cases c7 : (wrap64 ((l0_0.length : Int) - 2)) < t194
        · rw [if_pos c7] at H
          have c7b0 : decide ((wrap64 ((l0_0.length : Int) - 2)) < t194) = true := decide_eq_true c7
          (try (have c7w0 : decide ((IntKind.i64.wrap ((l0_0.length : Int) - 2)) < t194) = true := by (simp only [i64_w, i32_w]; exact c7b0)))
          clear c7
          simp only [Option.some.injEq, Prod.mk.injEq] at H
          obtain ⟨rfl, rfl, rfl⟩ := H
          have hcz8_0 : w.cell? ⟨g0, 0, none⟩ = some (.slice A0_0 l0_0.length c0_0) := (blk_cell BK0.out 0).trans rfl
          have hcz8_1 : w.cell? ⟨g0, 1, none⟩ = some (.int .i64 a0_1) := (blk_cell BK0.out 1).trans rfl
          have hfz8_0 := blk_frozen BK0.out 0
          have hfz8_1 := blk_frozen BK0.out 1
          have q9 : (2 : Int) ≤ ((l0_0.length : Int) : Int) := of_decide_eq_true (by first | (with_reducible assumption) | assumption)
          obtain ⟨i09, hi09, _, hsz9, _⟩ := info_parts info5
          have hroom9 : l0_0.length ≤ c0_0 := (Kd.V_reads' HO0_0.out).2.1
          have hC9 : Kd.F (Kd.int .u8) _ _ A0_0 l0_0.length l0_0 := (Kd.V_at (base := w0.heap.size) HO0_0.out).2.2
          have hcut9 := cut_to (P := Try.prog) 24 5 .i64 Try.underlying24 hi09 A0_0 l0_0.length c0_0 2 (by omega) q9 hroom9
          have hr9 := Kd.F_take (m := 2) hC9 (by omega)
          have hy9 : y189.length = (2 : Int).toNat := (by rw [Ny189.out, List.length_take]; omega)
          rw [← Ny189.out] at hr9
          rw [← hy9] at hcut9
          have HO193 := Aside0.mk (show Kd.V (Kd.int .u8) 5 _ w0.heap.size _ (.slice A0_0 y189.length c0_0) y189 from Kd.V_mk (by omega) hr9)
          have HC193 := Aside0.mk (show y189.length ≤ c0_0 from by omega)
          clear hr9 hC9 hroom9 hi09 hsz9
          have KY9 := Aside0.mk hy9
          clear hy9
          replace q9 := eq_true q9
          go_enter Try.func17, Try.ntmps17
          go_wp2_with (first | (go_at_call 24; (with_reducible refine (withyref02_number.calls k _ _ y189 t194 _ ?side1 ?side2 A6.out).mono ?_); (case side1 => repeat (first | exact (Kd.V_reads' HO193.out).2.2 | (with_reducible refine Kd.C_alloc ?_ _) | (with_reducible refine Kd.C_drewN ?_ _) | (with_reducible refine Kd.C_drew ?_))); (case side2 => exact (Kd.V_reads' HO193.out).2.1); rintro e w' ⟨rfl, ⟨nd, rfl⟩⟩; (try first | exact ⟨rfl, _, World.drewN_drewN _ _ _⟩ | exact ⟨rfl, _, Eq.trans (World.drewN_drewN _ _ _) (congrArg (World.drewN _) (Nat.add_assoc _ _ _))⟩)))
          repeat (go_quiet (first | (go_at_call 24; (with_reducible refine (withyref02_number.calls k _ _ y189 t194 _ ?side1 ?side2 A6.out).mono ?_); (case side1 => repeat (first | exact (Kd.V_reads' HO193.out).2.2 | (with_reducible refine Kd.C_alloc ?_ _) | (with_reducible refine Kd.C_drewN ?_ _) | (with_reducible refine Kd.C_drew ?_))); (case side2 => exact (Kd.V_reads' HO193.out).2.1); rintro e w' ⟨rfl, ⟨nd, rfl⟩⟩; (try first | exact ⟨rfl, _, World.drewN_drewN _ _ _⟩ | exact ⟨rfl, _, Eq.trans (World.drewN_drewN _ _ _) (congrArg (World.drewN _) (Nat.add_assoc _ _ _))⟩))); try go_wp2_with (first | (go_at_call 24; (with_reducible refine (withyref02_number.calls k _ _ y189 t194 _ ?side1 ?side2 A6.out).mono ?_); (case side1 => repeat (first | exact (Kd.V_reads' HO193.out).2.2 | (with_reducible refine Kd.C_alloc ?_ _) | (with_reducible refine Kd.C_drewN ?_ _) | (with_reducible refine Kd.C_drew ?_))); (case side2 => exact (Kd.V_reads' HO193.out).2.1); rintro e w' ⟨rfl, ⟨nd, rfl⟩⟩; (try first | exact ⟨rfl, _, World.drewN_drewN _ _ _⟩ | exact ⟨rfl, _, Eq.trans (World.drewN_drewN _ _ _) (congrArg (World.drewN _) (Nat.add_assoc _ _ _))⟩))))
          go_ret
          exact ⟨_, _, by first | rfl | (simp [errW_none, errW_some] <;> rfl) | (simp [*, errW_none, errW_some] <;> rfl), Kd.V_nil _ _ _ _ _, by (with_reducible repeat (first | apply Kd.V_alloc | apply Kd.V_drewN | apply Kd.V_drew)); exact Kd.V_mono (Kd.V_far (p := ⟨g0, 1, none⟩) (Kd.V_mono HO0_0.out (fun k_ hk => (⟨hk, hk.2⟩ : _ ∧ k_ ≠ g0))) (fun _ hk => hk.2) (.int .i64 5)) (fun _ hk => hk.1.1), by (with_reducible repeat (first | refine blk_drewN ?_ _ | refine blk_drew ?_ | refine blk_alloc ?_ _)); refine blk_put (cs := #[.slice A0_0 l0_0.length c0_0, .int .i64 a0_1]) ?_ 1 _ rfl; (with_reducible repeat (first | refine blk_drewN ?_ _ | refine blk_drew ?_ | refine blk_alloc ?_ _)); exact BK0.out, by repeat (first | (with_reducible first | exact HB.out | apply below_alloc | apply pw_below_drewN | apply below_drew1 | refine below_set ?_ GE0.out) | exact HB.out), by repeat (first | (with_reducible first | exact HK.out | apply Kept.alloc | apply Kept.drewN | apply Kept.drew | refine Kept.setCell ?_ (.inl (by exact rfl)) _) | exact HK.out)⟩
        · rw [if_neg c7] at H
          have c7b0 : decide ((wrap64 ((l0_0.length : Int) - 2)) < t194) = false := decide_eq_false c7
          (try (have c7w0 : decide ((IntKind.i64.wrap ((l0_0.length : Int) - 2)) < t194) = false := by (simp only [i64_w, i32_w]; exact c7b0)))
          clear c7
          by_cases c10 : 2 ≤ (wrap64 (2 + t194))
          · rw [if_pos c10] at H
            have c10b0 := eq_true c10
            have c10b1 : decide (2 ≤ (wrap64 (2 + t194))) = true := decide_eq_true c10
            by_cases c11 : (wrap64 (2 + t194)) ≤ (l0_0.length : Int)
            · rw [if_pos c11] at H
              have c11b0 := eq_true c11
              have c11b1 : decide ((wrap64 (2 + t194)) ≤ (l0_0.length : Int)) = true := decide_eq_true c11
              obtain ⟨y195, hy195⟩ : ∃ y_ : List Int, y_ = ((l0_0.take ((wrap64 (2 + t194)) : Int).toNat).drop 2) := ⟨_, rfl⟩
              replace H : (if 0 ≤ (wrap64 (2 + t194)) then (some (y195, (l0_0.drop ((wrap64 (2 + t194)) : Int).toNat), a0_1)) else (none)) = some (r1, r2, r3) := by first | (rw [hy195]; with_reducible exact H) | (have H2_ := (Option.bind_some _ _).symm.trans H; rw [hy195]; with_reducible exact H2_) | (have H2_ := (Option.bind_some _ _).symm.trans H; with_reducible exact H2_) | with_reducible exact H | (rw [hy195]; exact H) | exact H
              have Ny195 := Aside0.mk hy195
              clear hy195
              obtain ⟨ji12, hji12⟩ : ∃ j_ : Int, (wrap64 (2 + t194)) = j_ := ⟨_, rfl⟩
              replace H : (if 0 ≤ (ji12) then (some (y195, (l0_0.drop ((ji12) : Int).toNat), a0_1)) else (none)) = some (r1, r2, r3) := by first | (rw [hji12] at H; exact H) | (simp only [hji12] at H ⊢; exact H)
              (try rw [hji12] at c10b0)
              (try rw [hji12] at c10b1)
              (try rw [hji12] at c10)
              (try rw [hji12] at c11b0)
              (try rw [hji12] at c11b1)
              (try rw [hji12] at c11)
              (try rw [hji12] at A6)
              (try rw [hji12] at Ny195)
              have hji12w : (IntKind.i64.wrap (2 + t194)) = ji12 := (i64_w _).trans hji12
              by_cases c13 : 0 ≤ (ji12)
              · rw [if_pos c13] at H
                have c13b0 := eq_true c13
                have c13b1 : decide (0 ≤ (ji12)) = true := decide_eq_true c13
                clear c13
                have c14b0 := eq_true (of_decide_eq_true (by first | (with_reducible assumption) | assumption) : (ji12) ≤ (l0_0.length : Int))
                obtain ⟨y200, hy200⟩ : ∃ y_ : List Int, y_ = (l0_0.drop ((ji12) : Int).toNat) := ⟨_, rfl⟩
                replace H : (some (y195, y200, a0_1)) = some (r1, r2, r3) := by first | (rw [hy200]; with_reducible exact H) | (have H2_ := (Option.bind_some _ _).symm.trans H; rw [hy200]; with_reducible exact H2_) | (have H2_ := (Option.bind_some _ _).symm.trans H; with_reducible exact H2_) | with_reducible exact H | (rw [hy200]; exact H) | exact H
                have Ny200 := Aside0.mk hy200
                clear hy200
                simp only [Option.some.injEq, Prod.mk.injEq] at H
                obtain ⟨rfl, rfl, rfl⟩ := H
                have hcz15_0 : w.cell? ⟨g0, 0, none⟩ = some (.slice A0_0 l0_0.length c0_0) := (blk_cell BK0.out 0).trans rfl
                have hcz15_1 : w.cell? ⟨g0, 1, none⟩ = some (.int .i64 a0_1) := (blk_cell BK0.out 1).trans rfl
                have hfz15_0 := blk_frozen BK0.out 0
                have hfz15_1 := blk_frozen BK0.out 1
                have q16 : (2 : Int) ≤ ((l0_0.length : Int) : Int) := of_decide_eq_true (by first | (with_reducible assumption) | assumption)
                obtain ⟨i016, hi016, _, hsz16, _⟩ := info_parts info5
                have hroom16 : l0_0.length ≤ c0_0 := (Kd.V_reads' HO0_0.out).2.1
                have hC16 : Kd.F (Kd.int .u8) _ _ A0_0 l0_0.length l0_0 := (Kd.V_at (base := w0.heap.size) HO0_0.out).2.2
                have hcut16 := cut_to (P := Try.prog) 24 5 .i64 Try.underlying24 hi016 A0_0 l0_0.length c0_0 2 (by omega) q16 hroom16
                have hr16 := Kd.F_take (m := 2) hC16 (by omega)
                have hy16 : y189.length = (2 : Int).toNat := (by rw [Ny189.out, List.length_take]; omega)
                rw [← Ny189.out] at hr16
                rw [← hy16] at hcut16
                have HO193 := Aside0.mk (show Kd.V (Kd.int .u8) 5 _ w0.heap.size _ (.slice A0_0 y189.length c0_0) y189 from Kd.V_mk (by omega) hr16)
                have HC193 := Aside0.mk (show y189.length ≤ c0_0 from by omega)
                clear hr16 hC16 hroom16 hi016 hsz16
                have KY16 := Aside0.mk hy16
                clear hy16
                replace q16 := eq_true q16
                have q17 : ((ji12) : Int) ≤ ((l0_0.length : Int) : Int) := of_decide_eq_true (by first | (with_reducible assumption) | assumption)
                obtain ⟨i017, hi017, _, hsz17, _⟩ := info_parts info5
                have hroom17 : l0_0.length ≤ c0_0 := (Kd.V_reads' HO0_0.out).2.1
                have hC17 : Kd.F (Kd.int .u8) _ _ A0_0 l0_0.length l0_0 := (Kd.V_at (base := w0.heap.size) HO0_0.out).2.2
                have ql17 : (2 : Int) ≤ ((ji12) : Int) := of_decide_eq_true (by first | (with_reducible assumption) | assumption)
                have hcut17 := cut_mid (P := Try.prog) 24 5 .i64 .i64 Try.underlying24 hi017 1 hsz17 A0_0 l0_0.length c0_0 2 (ji12) (by omega) ql17 q17 hroom17
                have hr17 := Kd.F_mid (lo := (2 : Int).toNat) (hi := ((ji12) : Int).toNat) (c := c0_0) hC17 (by omega) (by omega) hroom17
                obtain ⟨A17, hA17⟩ : ∃ A1, A1 = (if c0_0 = (2 : Int).toNat then A0_0 else (A0_0 : Option Addr).map (·.add ((2 : Int).toNat * 1))) := ⟨_, rfl⟩
                obtain ⟨c17, hc17⟩ : ∃ c1, c1 = c0_0 - (2 : Int).toNat := ⟨_, rfl⟩
                have hy17 : y195.length = ((ji12) : Int).toNat - (2 : Int).toNat := (by rw [Ny195.out, List.length_drop, List.length_take] <;> omega)
                rw [show ((l0_0).take ((ji12) : Int).toNat).drop (2 : Int).toNat = y195 from Ny195.out.symm] at hr17
                replace hr17 : Kd.F (Kd.int .u8) _ _ A17 y195.length y195 := (by rw [hA17]; exact hr17)
                rw [← hy17, ← hA17, ← hc17] at hcut17
                have HO199 := Aside0.mk (show Kd.V (Kd.int .u8) 5 _ w0.heap.size _ (.slice A17 y195.length c17) y195 from Kd.V_mk (by rw [hy17, hc17]; exact Nat.sub_le_sub_right (Nat.le_trans (by omega) hroom17) _) hr17)
                have HC199 := Aside0.mk (show y195.length ≤ c17 from by rw [hy17, hc17]; exact Nat.sub_le_sub_right (Nat.le_trans (by omega) hroom17) _)
                clear hr17 hC17 hroom17 hi017 hsz17 hc17
                have KY17 := Aside0.mk hy17
                have KA17 := Aside0.mk hA17
                clear hy17 hA17
                replace q17 := eq_true q17
                have q18 : ((ji12) : Int) ≤ ((l0_0.length : Int) : Int) := of_decide_eq_true (by first | (with_reducible assumption) | assumption)
                obtain ⟨i018, hi018, _, hsz18, _⟩ := info_parts info5
                have hroom18 : l0_0.length ≤ c0_0 := (Kd.V_reads' HO0_0.out).2.1
                have hC18 : Kd.F (Kd.int .u8) _ _ A0_0 l0_0.length l0_0 := (Kd.V_at (base := w0.heap.size) HO0_0.out).2.2
                have q018 : (0 : Int) ≤ ((ji12) : Int) := of_decide_eq_true (by first | (with_reducible assumption) | assumption)
                have hcut18 := cut_from (P := Try.prog) 24 5 .i64 Try.underlying24 hi018 1 hsz18 A0_0 l0_0.length c0_0 (ji12) q018 q18
                have hr18 := Kd.F_cut (m := ((ji12) : Int).toNat) (c := c0_0) hC18 (by omega) hroom18
                obtain ⟨A18, hA18⟩ : ∃ A1, A1 = (if c0_0 = ((ji12) : Int).toNat then A0_0 else (A0_0 : Option Addr).map (·.add (((ji12) : Int).toNat * 1))) := ⟨_, rfl⟩
                obtain ⟨c18, hc18⟩ : ∃ c1, c1 = c0_0 - ((ji12) : Int).toNat := ⟨_, rfl⟩
                have hy18 : y200.length = l0_0.length - ((ji12) : Int).toNat := (by rw [Ny200.out, List.length_drop] <;> omega)
                rw [show (l0_0).drop ((ji12) : Int).toNat = y200 from Ny200.out.symm] at hr18
                replace hr18 : Kd.F (Kd.int .u8) _ _ A18 y200.length y200 := (by rw [hA18]; exact hr18)
                rw [← hy18, ← hA18, ← hc18] at hcut18
                have HO204 := Aside0.mk (show Kd.V (Kd.int .u8) 5 _ w0.heap.size _ (.slice A18 y200.length c18) y200 from Kd.V_mk (by rw [hy18, hc18]; exact Nat.sub_le_sub_right hroom18 _) hr18)
                have HC204 := Aside0.mk (show y200.length ≤ c18 from by rw [hy18, hc18]; exact Nat.sub_le_sub_right hroom18 _)
                clear hr18 hC18 hroom18 hi018 hsz18 hc18
                have KY18 := Aside0.mk hy18
                have KA18 := Aside0.mk hA18
                clear hy18 hA18
                replace q18 := eq_true q18
                go_enter Try.func17, Try.ntmps17
                go_wp2_with (first | (go_at_call 24; (with_reducible refine (withyref02_number.calls k _ _ y189 t194 _ ?side1 ?side2 A6.out).mono ?_); (case side1 => repeat (first | exact (Kd.V_reads' HO193.out).2.2 | (with_reducible refine Kd.C_alloc ?_ _) | (with_reducible refine Kd.C_drewN ?_ _) | (with_reducible refine Kd.C_drew ?_))); (case side2 => exact (Kd.V_reads' HO193.out).2.1); rintro e w' ⟨rfl, ⟨nd, rfl⟩⟩; (try first | exact ⟨rfl, _, World.drewN_drewN _ _ _⟩ | exact ⟨rfl, _, Eq.trans (World.drewN_drewN _ _ _) (congrArg (World.drewN _) (Nat.add_assoc _ _ _))⟩)))
                repeat (go_quiet (first | (go_at_call 24; (with_reducible refine (withyref02_number.calls k _ _ y189 t194 _ ?side1 ?side2 A6.out).mono ?_); (case side1 => repeat (first | exact (Kd.V_reads' HO193.out).2.2 | (with_reducible refine Kd.C_alloc ?_ _) | (with_reducible refine Kd.C_drewN ?_ _) | (with_reducible refine Kd.C_drew ?_))); (case side2 => exact (Kd.V_reads' HO193.out).2.1); rintro e w' ⟨rfl, ⟨nd, rfl⟩⟩; (try first | exact ⟨rfl, _, World.drewN_drewN _ _ _⟩ | exact ⟨rfl, _, Eq.trans (World.drewN_drewN _ _ _) (congrArg (World.drewN _) (Nat.add_assoc _ _ _))⟩))); try go_wp2_with (first | (go_at_call 24; (with_reducible refine (withyref02_number.calls k _ _ y189 t194 _ ?side1 ?side2 A6.out).mono ?_); (case side1 => repeat (first | exact (Kd.V_reads' HO193.out).2.2 | (with_reducible refine Kd.C_alloc ?_ _) | (with_reducible refine Kd.C_drewN ?_ _) | (with_reducible refine Kd.C_drew ?_))); (case side2 => exact (Kd.V_reads' HO193.out).2.1); rintro e w' ⟨rfl, ⟨nd, rfl⟩⟩; (try first | exact ⟨rfl, _, World.drewN_drewN _ _ _⟩ | exact ⟨rfl, _, Eq.trans (World.drewN_drewN _ _ _) (congrArg (World.drewN _) (Nat.add_assoc _ _ _))⟩))))
                go_ret
                exact ⟨_, _, by first | rfl | (simp [errW_none, errW_some] <;> rfl) | (simp only [← hji12]; first | rfl | (simp [errW_none, errW_some] <;> rfl)) | (simp [*, errW_none, errW_some] <;> rfl), by (with_reducible repeat (first | apply Kd.V_alloc | apply Kd.V_drewN | apply Kd.V_drew)); exact Kd.V_mono (Kd.V_far (p := ⟨g0, 0, none⟩) (Kd.V_mono HO199.out (fun k_ hk => (⟨hk, hk.2⟩ : _ ∧ k_ ≠ g0))) (fun _ hk => hk.2) (.slice A18 y200.length c18)) (fun _ hk => hk.1.1), by (with_reducible repeat (first | apply Kd.V_alloc | apply Kd.V_drewN | apply Kd.V_drew)); exact Kd.V_mono (Kd.V_far (p := ⟨g0, 0, none⟩) (Kd.V_mono HO204.out (fun k_ hk => (⟨hk, hk.2⟩ : _ ∧ k_ ≠ g0))) (fun _ hk => hk.2) (.slice A18 y200.length c18)) (fun _ hk => hk.1.1), by (with_reducible repeat (first | refine blk_drewN ?_ _ | refine blk_drew ?_ | refine blk_alloc ?_ _)); refine blk_put (cs := #[.slice A0_0 l0_0.length c0_0, .int .i64 a0_1]) ?_ 0 _ rfl; (with_reducible repeat (first | refine blk_drewN ?_ _ | refine blk_drew ?_ | refine blk_alloc ?_ _)); exact BK0.out, by repeat (first | (with_reducible first | exact HB.out | apply below_alloc | apply pw_below_drewN | apply below_drew1 | refine below_set ?_ GE0.out) | exact HB.out), by repeat (first | (with_reducible first | exact HK.out | apply Kept.alloc | apply Kept.drewN | apply Kept.drew | refine Kept.setCell ?_ (.inl (by exact rfl)) _) | exact HK.out)⟩
              · rw [if_neg c13] at H
                exact absurd H (by simp)
            · rw [if_neg c11] at H
              exact absurd H (by simp)
          · rw [if_neg c10] at H
            exact absurd H (by simp)
      · rw [if_neg c5] at H
        exact absurd H (by simp)
  · rw [if_neg c2] at H
    have c2b0 : (a0_1 == 0) = false := beq_eq_false_iff_ne.mpr c2
    have c2b1 : (a0_1 != 0) = true := bne_iff_ne.mpr c2
    simp only [Option.some.injEq, Prod.mk.injEq] at H
    obtain ⟨rfl, rfl, rfl⟩ := H
    have hcz19_0 : w.cell? ⟨g0, 0, none⟩ = some (.slice A0_0 l0_0.length c0_0) := (blk_cell BK0.out 0).trans rfl
    have hcz19_1 : w.cell? ⟨g0, 1, none⟩ = some (.int .i64 a0_1) := (blk_cell BK0.out 1).trans rfl
    have hfz19_0 := blk_frozen BK0.out 0
    have hfz19_1 := blk_frozen BK0.out 1
    go_enter Try.func17, Try.ntmps17
    go_wp2
    repeat (go_quiet (fail); try go_wp2)
    go_ret
    exact ⟨_, _, by first | rfl | (simp [errW_none, errW_some] <;> rfl) | (simp [*, errW_none, errW_some] <;> rfl), Kd.V_nil _ _ _ _ _, by (with_reducible repeat (first | apply Kd.V_alloc | apply Kd.V_drewN | apply Kd.V_drew)); exact Kd.V_mono HO0_0.out (fun _ hk => hk.1), by (with_reducible repeat (first | refine blk_drewN ?_ _ | refine blk_drew ?_ | refine blk_alloc ?_ _)); exact BK0.out, by repeat (first | (with_reducible first | exact HB.out | apply below_alloc | apply pw_below_drewN | apply below_drew1 | refine below_set ?_ GE0.out) | exact HB.out), by repeat (first | (with_reducible first | exact HK.out | apply Kept.alloc | apply Kept.drewN | apply Kept.drew | refine Kept.setCell ?_ (.inl (by exact rfl)) _) | exact HK.out)⟩

/-! ### withyref02_Limit: function 7 -/
def withyref02_Limit.l0 : Nat → Int → Int → Int → Option (Int)
  | 0, _, _, _ => none
  | k + 1, x0, x3, x4 => if x4 < x0 then (withyref02_Limit.l0 k x0 (wrap64 (x3 * 256)) (wrap64 (x4 + 1))) else (if (wrap64 (x3 - 1)) > 2147483647 then (some 2147483647) else (some (wrap64 (x3 - 1))))
def withyref02_Limit.f (k : Nat) (a0 : Int) : Option (Int) := withyref02_Limit.l0 k a0 1 0
theorem withyref02_Limit.mono_l : ∀ k, (∀ y0 y1 y2, LeO (withyref02_Limit.l0 k y0 y1 y2) (withyref02_Limit.l0 (k + 1) y0 y1 y2))
  | 0 => fun _ _ _ r h => by simp [withyref02_Limit.l0] at h
  | k + 1 => by
    have ih0 := withyref02_Limit.mono_l k
    · intro y0 y1 y2
      unfold withyref02_Limit.l0
      repeat' first
      | (with_reducible exact ih0 _ _ _)
      | (with_reducible exact LeO.refl _)
      | (with_reducible exact LeO.none _)
      | (with_reducible refine LeO.ite ?_ ?_)
      | (with_reducible refine LeO.bind ?_ (fun _ => ?_))
      | exact ih0 _ _ _
      | exact LeO.none _
      | refine LeO.ite ?_ ?_
      | refine LeO.bind ?_ (fun _ => ?_)
theorem withyref02_Limit.mono : ∀ a0 k, LeO (withyref02_Limit.f k a0) (withyref02_Limit.f (k + 1) a0) := by
  intro a0 k
  have ih0 := withyref02_Limit.mono_l k
  unfold withyref02_Limit.f
  repeat' first
      | (with_reducible exact ih0 _ _ _)
      | (with_reducible exact LeO.refl _)
      | (with_reducible exact LeO.none _)
      | (with_reducible refine LeO.ite ?_ ?_)
      | (with_reducible refine LeO.bind ?_ (fun _ => ?_))
      | exact ih0 _ _ _
      | exact LeO.none _
      | refine LeO.ite ?_ ?_
      | refine LeO.bind ?_ (fun _ => ?_)
set_option maxHeartbeats 8000000 in
set_option maxRecDepth 100000 in
theorem withyref02_Limit.calls (k : Nat) (a0 : Int) (r : Int) (w : World) (h : withyref02_Limit.f k a0 = some r) :
    Calls Try.prog 7 #[.int .i64 a0] w fun e w' => e = .returned (.int .i64 r) ∧ Drawn0 w w' := by
  have H : (withyref02_Limit.l0 k a0 1 0) = some r := h
  clear h
  have H' := Aside0.mk H
  clear H
  go_enter Try.func7, Try.ntmps7
  go_wp2
  go_loopg [3, 4] k (fun kq v3 v4 w' => ∃ (x3_1 : Int) (x4_1 : Int), v3 = .int .i64 x3_1 ∧ v4 = .int .i64 x4_1 ∧ Aside0 (withyref02_Limit.l0 kq a0 x3_1 x4_1 = some r) ∧ Aside0 (kq ≤ k) ∧ Drawn0 w w')
  case atStart => exact ⟨(1), (0), (by first | rfl | (simp; done) | (simp [*]; done) | (congr 1; omega) | (simp; omega)), (by first | rfl | (simp; done) | (simp [*]; done) | (congr 1; omega) | (simp; omega)), H', ⟨Nat.le_refl _⟩, by repeat (first | exact Drawn0.refl _ | apply Drawn0.step)⟩
  case round =>
    clear H'
    obtain ⟨x3_1, x4_1, rfl, rfl, HA, HK1, ⟨m1, rfl⟩⟩ := hrel
    cases gk with
    | zero => exact absurd HA.out (by simp [withyref02_Limit.l0])
    | succ k1 =>
      have H := HA.out
      clear HA
      simp only [withyref02_Limit.l0] at H
      by_cases c2 : x4_1 < a0
      · rw [if_pos c2] at H
        have c2b0 : decide (x4_1 < a0) = true := decide_eq_true c2
        clear c2
        have H' := Aside0.mk H
        clear H
        go_wp2
        go_roundg k1
        case measure => have := HK1.out; omega
        case rel => exact ⟨(wrap64 (x3_1 * 256)), (wrap64 (x4_1 + 1)), (by first | rfl | (simp; done) | (simp [*]; done) | (congr 1; omega) | (simp; omega)), (by first | rfl | (simp; done) | (simp [*]; done) | (congr 1; omega) | (simp; omega)), H', ⟨by have := HK1.out; omega⟩, by repeat (first | exact Drawn0.refl _ | apply Drawn0.step)⟩
      · rw [if_neg c2] at H
        have c2b0 : decide (x4_1 < a0) = false := decide_eq_false c2
        clear c2
        by_cases c3 : (wrap64 (x3_1 - 1)) > 2147483647
        · rw [if_pos c3] at H
          have c3b0 : decide (2147483647 < (wrap64 (x3_1 - 1))) = true := decide_eq_true c3
          clear c3
          obtain rfl := Option.some.inj H
          go_wp2
          go_ret
          exact ⟨by first | rfl | (simp; done) | (simp [*]; done) | (congr 1; omega) | (simp; omega), by repeat (first | exact Drawn0.refl _ | apply Drawn0.step)⟩
        · rw [if_neg c3] at H
          have c3b0 : decide (2147483647 < (wrap64 (x3_1 - 1))) = false := decide_eq_false c3
          clear c3
          obtain rfl := Option.some.inj H
          go_wp2
          go_ret
          exact ⟨by first | rfl | (simp; done) | (simp [*]; done) | (congr 1; omega) | (simp; omega), by repeat (first | exact Drawn0.refl _ | apply Drawn0.step)⟩

end Go.Proofs.Ytfbdidijdibhmaa.POctetScans
