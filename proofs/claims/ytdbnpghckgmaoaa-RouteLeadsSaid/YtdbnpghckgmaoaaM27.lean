/- texts of this claim, one behind the other: VM, VN. -/
import Derived.Test.YtdbnpghckgmaoaaM12
import Derived.Test.YtdbnpghckgmaoaaM24
import Derived.Test.YtdbnpghckgmaoaaM25
import Derived.Test.YtdbnpghckgmaoaaM26

/- routes: views that come in, the small question; leaders, plain. -/
namespace Go.Proofs.Ytdbnpghckgmaoaa
set_option linter.unusedVariables false
set_option linter.unusedSimpArgs false
set_option linter.unusedSectionVars false
open Go.RowKit Go.WideShapes Ab TP VP
theorem lkN_sorted {f : Nat → Bool} : ∀ {k : Nat}, (lkN f k).Pairwise (· < ·)
  | 0 => List.Pairwise.nil
  | k + 1 => by
    rw [lkN, List.pairwise_append]
    refine ⟨lkN_sorted, ?_, fun x hx y hy => ?_⟩
    · split <;> simp
    · have := (lkN_mem.1 hx).2.1
      split at hy
      · rw [List.mem_singleton] at hy; omega
      · cases hy
/-- The first of a list that rises is its least. -/
theorem head_le {l : List Int} (h : l.Pairwise (· < ·)) {x : Int} (hx : x ∈ l) : l.headD 0 ≤ x := by
  match l, h, hx with
  | y :: t, h, hx =>
    rcases List.mem_cons.1 hx with rfl | hx
    · exact Int.le_refl _
    · exact Int.le_of_lt ((List.pairwise_cons.1 h).1 x hx)
theorem head_mem {l : List Int} {x : Int} (hx : x ∈ l) : l.headD 0 ∈ l := by
  match l, hx with
  | y :: t, _ => simp
theorem side_conn {l : List E} {a b : Int} (ha : TP.Node a) (hb : TP.Node b) (h : Conn l a b) : side l a = side l b := by
  unfold side
  refine lkN_congr fun i _ _ => ?_
  rw [Bool.eq_iff_iff, reachB_iff, reachB_iff]
  exact ⟨fun k => ⟨hb, h.symm.trans k.2⟩, fun k => ⟨ha, h.trans k.2⟩⟩
theorem lead_iff {l : List E} (hg : TP.Good l) {a b : Int} (ha : TP.Node a) (hb : TP.Node b) : (side l a).headD 0 = (side l b).headD 0 ↔ Conn l a b := by
  constructor
  · intro h
    have h1 := head_mem ((side_mem (Good.node hg) ha (x := a)).2 (.refl a))
    have h2 := head_mem ((side_mem (Good.node hg) hb (x := b)).2 (.refl b))
    rw [h] at h1
    exact ((side_mem (Good.node hg) ha).1 h1).trans ((side_mem (Good.node hg) hb).1 h2).symm
  · intro h; rw [side_conn ha hb h]
theorem vl_el : vlinks [1, 2, 3] [e1, e2] [e1, e2] = [⟨1, 2, 0, 1, true⟩, ⟨2, 1, 0, 1, true⟩, ⟨2, 3, 0, 1, true⟩, ⟨3, 2, 0, 1, true⟩] := by decide +kernel
abbrev vl : List Kn := [⟨1, 2, 0, 1, true⟩, ⟨2, 1, 0, 1, true⟩, ⟨2, 3, 0, 1, true⟩, ⟨3, 2, 0, 1, true⟩]
theorem vl_bnd : bnd vl = [e1, e2] := by decide +kernel
theorem vl_may : MayV [1, 2, 3] vl := ⟨⟨by decide, by decide⟩, by decide, by decide⟩
theorem vl_chk : chk [1, 2, 3] vl 3 = 0 := chk_of vl_may (by decide) (by rw [vl_bnd]; exact el_forest) (by decide)
theorem vl_hopE : hopE [1, 2, 3] vl 3 1 = 0 := hop_ok.2 ⟨by decide, vl_chk, by rw [vl_bnd]; exact lkB_iff.2 ⟨by decide, by decide, el_way.conn⟩⟩
theorem vl_hopV : hopV [1, 2, 3] vl 3 1 = 2 := by
  rw [hopV_ok vl_hopE, vl_bnd]
  have h := nxt_eq (el_forest.cut el_good.2.nodup) el_way
  exact (Option.some.inj h).symm
theorem vl_ldr : ldr [1, 2, 3] vl 3 = 1 := by
  rw [ldr_ok vl_chk, vl_bnd]
  have hm := (side_mem (Good.node el_good) (show TP.Node 3 by decide) (x := 1)).2 el_way.conn
  have h1 := head_le (lkN_sorted (f := reachB [e1, e2] 3) (k := 64)) hm
  have h2 := (lkN_mem.1 (head_mem hm)).1
  exact Int.le_antisymm h1 h2
/-! ### what comes in -/
theorem list5k {l : List Value} (h : l.length = 5) : ∃ a b c d e, l = [a, b, c, d, e] := by
  match l, h with
  | [a, b, c, d, e], _ => exact ⟨a, b, c, d, e, rfl⟩
theorem flatKn {w : World} : Flat Try.prog w 56 (fun k : Kn => kc k) (fun _ => True) := by
  intro H enc base spare held fuel cs y h
  obtain ⟨a, b, c, d, e, rfl⟩ := list5k (fld_len Try.underlying56 h (by kernel_rfl))
  obtain ⟨n0, e0, _⟩ := fld_int Try.underlying56 h 0 rfl (by kernel_rfl) Try.underlying3
  obtain ⟨n1, e1, _⟩ := fld_int Try.underlying56 h 1 rfl (by kernel_rfl) Try.underlying3
  obtain ⟨n2, e2, _⟩ := fld_int Try.underlying56 h 2 rfl (by kernel_rfl) Try.underlying3
  obtain ⟨n3, e3, _⟩ := fld_int Try.underlying56 h 3 rfl (by kernel_rfl) Try.underlying3
  obtain ⟨n4, e4⟩ := fld_bool Try.underlying56 h 4 rfl (by kernel_rfl) Try.underlying4
  simp at e0 e1 e2 e3 e4
  subst e0; subst e1; subst e2; subst e3; subst e4
  exact ⟨⟨n0, n1, n2, n3, n4⟩, rfl, trivial⟩
theorem flat_ints (l : List Int) : (l.flatMap fun n => [Value.int .i64 n]) = ints l := by
  induction l with
  | nil => rfl
  | cons a l ih => rw [List.flatMap_cons, ih]; rfl
theorem view_in {W : World} {base : Nat} {H : Type} {enc : TypeId × Value → H} {b0 : Nat} {sp : Nat → Bool} {held : Bool} {v : Value} {d : DataW H} {ps : List MemPlace} (hv : Value.okWide Try.prog W .any base 25 v)
    (h : DataW.Trod enc Try.prog W b0 sp held 25 v d ps) {L : List (Ab.Loc × List Value)} (hL : Okl W L) :
    ∃ L1 A B n c m dd on ol nodes K, Okl W (L ++ L1) ∧ VR (roR (L ++ L1)) (.agg #[.slice A n c, .slice B m dd]) v ∧ NA (roH (L ++ L1)) (.slice A n c) on nodes ∧ KA (roH (L ++ L1)) (.slice B m dd) ol K := by
  obtain ⟨fuel, ht⟩ := h
  unfold Value.okWide at hv
  rw [Try.underlying25] at hv
  obtain ⟨cs, rfl, hsz, ts, hts, _, hcell⟩ := hv
  have h31 : Try.prog.cellTypes Try.prog.depth 25 = some [22, 23] := by kernel_rfl
  rw [h31] at hts
  obtain rfl := Option.some.inj hts
  have ht' : DataW.trod enc Try.prog W b0 sp held fuel 25 cs.toList = some (d, ps) := ht
  have h2 : cs.toList.length = 2 := fld_len Try.underlying25 ht' (by kernel_rfl)
  obtain ⟨a, b, hcs⟩ : ∃ a b, cs.toList = [a, b] := by
    match cs.toList, h2 with
    | [a, b], _ => exact ⟨a, b, rfl⟩
  obtain rfl : cs = [a, b].toArray := by apply Array.ext'; simpa using hcs
  obtain ⟨_, _, hN⟩ := fld Try.underlying25 ht' 0 rfl (m := 1) (by kernel_rfl)
  obtain ⟨_, _, hK⟩ := fld Try.underlying25 ht' 1 rfl (m := 1) (by kernel_rfl)
  obtain ⟨u3, hu3, ok3⟩ := hcell 0 a rfl
  obtain ⟨u4, hu4, ok4⟩ := hcell 1 b rfl
  obtain rfl := Option.some.inj hu3
  obtain rfl := Option.some.inj hu4
  obtain ⟨L1, v1, xs, hL1, hv1, _, hx1⟩ := slice_in (m := 1) Try.underlying22 (by kernel_rfl) (fun x _ => rfl) (fun x _ => rfl) (flat_int Try.underlying3) ok3 hN hL
  obtain ⟨L2, v2, ys, hL2, hv2, _, hx2⟩ := slice_in (m := 5) Try.underlying23 (by kernel_rfl) (fun x _ => rfl) (fun x _ => rfl) flatKn ok4 hK hL1
  rw [List.append_assoc] at hL2 hv2 hx2
  have hle := roR_le (L ++ L1) L2
  rw [List.append_assoc] at hle
  have hlh : ∀ i b, roH (L ++ L1) i = some b → roH (L ++ (L1 ++ L2)) i = some b := fun i b h => by
    have := roH_le (L1 := L2) i b h; rwa [List.append_assoc] at this
  have hna : ∃ A n c on, v1 = .slice A n c ∧ NA (roH (L ++ (L1 ++ L2))) (.slice A n c) on xs := by
    rcases hx1 with ⟨rfl, rfl⟩ | ⟨o, c, rfl, hc, ha⟩
    · exact ⟨none, 0, 0, none, rfl, .nil⟩
    · refine ⟨_, _, c, some o, rfl, .blk (At.var (hlh _ _ ha.eq)) hc ?_⟩
      rw [flat_ints, ← ints_length]; exact List.take_length
  have hka : ∃ B m dd ol, v2 = .slice B m dd ∧ KA (roH (L ++ (L1 ++ L2))) (.slice B m dd) ol ys := by
    rcases hx2 with ⟨rfl, rfl⟩ | ⟨o, c, rfl, hc, ha⟩
    · exact ⟨none, 0, 0, none, rfl, .nil⟩
    · refine ⟨_, _, c, some o, rfl, .blk ha hc ?_⟩
      rw [← kcs_length]; exact List.take_length
  obtain ⟨A, n, c, on, rfl, hA⟩ := hna
  obtain ⟨B, m, dd, ol, rfl, hB⟩ := hka
  exact ⟨L1 ++ L2, A, B, n, c, m, dd, on, ol, xs, ys, hL2, .v (.agg (.cons (.a (hv1.mono hle)) (.cons (.a hv2) .nil))), hA, hB⟩
attribute [local irreducible] AOps AOpsD AOp AWp put nargs AHeap.set At Free ACall ACallE thenQ blockQ roundQ RetQ RetE Src Gr side lkN chk hopE hopV ldr nxt VP.bnd inn mvB reachB lkB foB tblN vlinks

def lightB (n m : Nat) : Bool := decide (n ≤ 70) && decide (m ≤ 60)
theorem lightL {s : AHeap} {A B : Option Addr} {n c m d : Nat} : ACall Try.prog 8 [.agg #[.slice A n c, .slice B m d]] s (.bool (lightB n m)) s := by
  unfold lightB
  refine ACall.make Try.func8 rfl (by kernel_rfl) (by decide) rfl (fun N hN0 => ?_)
  have hT : Top N s := hN0
  by_cases h1 : (n : Int) ≤ 70
  · rw [decide_eq_true (show n ≤ 70 by omega), Bool.true_and]
    by_cases h2 : (m : Int) ≤ 60
    · rw [decide_eq_true (show m ≤ 60 by omega)]
      (repeat' (first | (apply Ab.K.ev; exact ev_) | (apply Ab.K.aops; first | (apply Xg.s; constructor) | (apply Ab.S.guardU; (case hd => rfl); (case hb => (exact ev_; done))) | apply Ab.S.guardG) | (apply Ab.K.aop; first | (apply Ab.O.boxA (l := [.slice A n c, .slice B m d]) N; (case hx => exact ev_); (case hid => exact hT.free (Nat.le_refl _))) | (apply Og.s; constructor)) | (apply Ab.K.gk; first | (apply Xg.s; constructor) | (apply Ab.gY; case hw => assumption) | (apply Ab.gNT; case hw => assumption) | (apply Ab.gNF; case hw => assumption) | ((first | apply Ab.gD | apply Ab.gDN); all_goals (intro _ _; (first | contradiction | (exfalso; omega) | skip)))) | (apply Ab.K.awp; first | (apply Xg.s; constructor)) | (apply Ab.K.at_; exact at_) | (apply Ab.K.acall; first | assumption | fail) | (apply Ab.Rg.mk; omega) | (apply Ab.Lt.mk; first | decide | (simp; done) | (simp; omega) | fail) | (apply Ab.Get.mk; first | rfl | rfl) | (apply Ab.Nm.mk; first | exact nrm_) | (apply Xg.s; constructor) | (apply Ab.asm; assumption) | rfl | infer_instance | decide))
      all_goals ((first | apply RetQ.ret | apply RetQ.normal); (case he => exact evr_); (case hg => rfl))
      all_goals first | (simp [resV, h2]; done) | rfl | (apply Keeps.fr; (case h => exact fr_); (case hv => exact plR.nm rfl))
    · rw [decide_eq_false (show ¬ m ≤ 60 by omega)]
      (repeat' (first | (apply Ab.K.ev; exact ev_) | (apply Ab.K.aops; first | (apply Xg.s; constructor) | (apply Ab.S.guardU; (case hd => rfl); (case hb => (exact ev_; done))) | apply Ab.S.guardG) | (apply Ab.K.aop; first | (apply Ab.O.boxA (l := [.slice A n c, .slice B m d]) N; (case hx => exact ev_); (case hid => exact hT.free (Nat.le_refl _))) | (apply Og.s; constructor)) | (apply Ab.K.gk; first | (apply Xg.s; constructor) | (apply Ab.gY; case hw => assumption) | (apply Ab.gNT; case hw => assumption) | (apply Ab.gNF; case hw => assumption) | ((first | apply Ab.gD | apply Ab.gDN); all_goals (intro _ _; (first | contradiction | (exfalso; omega) | skip)))) | (apply Ab.K.awp; first | (apply Xg.s; constructor)) | (apply Ab.K.at_; exact at_) | (apply Ab.K.acall; first | assumption | fail) | (apply Ab.Rg.mk; omega) | (apply Ab.Lt.mk; first | decide | (simp; done) | (simp; omega) | fail) | (apply Ab.Get.mk; first | rfl | rfl) | (apply Ab.Nm.mk; first | exact nrm_) | (apply Xg.s; constructor) | (apply Ab.asm; assumption) | rfl | infer_instance | decide))
      all_goals ((first | apply RetQ.ret | apply RetQ.normal); (case he => exact evr_); (case hg => rfl))
      all_goals first | (simp [resV, h2]; done) | rfl | (apply Keeps.fr; (case h => exact fr_); (case hv => exact plR.nm rfl))
  · rw [decide_eq_false (show ¬ n ≤ 70 by omega), Bool.false_and]
    (repeat' (first | (apply Ab.K.ev; exact ev_) | (apply Ab.K.aops; first | (apply Xg.s; constructor) | (apply Ab.S.guardU; (case hd => rfl); (case hb => (exact ev_; done))) | apply Ab.S.guardG) | (apply Ab.K.aop; first | (apply Ab.O.boxA (l := [.slice A n c, .slice B m d]) N; (case hx => exact ev_); (case hid => exact hT.free (Nat.le_refl _))) | (apply Og.s; constructor)) | (apply Ab.K.gk; first | (apply Xg.s; constructor) | (apply Ab.gY; case hw => assumption) | (apply Ab.gNT; case hw => assumption) | (apply Ab.gNF; case hw => assumption) | ((first | apply Ab.gD | apply Ab.gDN); all_goals (intro _ _; (first | contradiction | (exfalso; omega) | skip)))) | (apply Ab.K.awp; first | (apply Xg.s; constructor)) | (apply Ab.K.at_; exact at_) | (apply Ab.K.acall; first | assumption | fail) | (apply Ab.Rg.mk; omega) | (apply Ab.Lt.mk; first | decide | (simp; done) | (simp; omega) | fail) | (apply Ab.Get.mk; first | rfl | rfl) | (apply Ab.Nm.mk; first | exact nrm_) | (apply Xg.s; constructor) | (apply Ab.asm; assumption) | rfl | infer_instance | decide))
    all_goals ((first | apply RetQ.ret | apply RetQ.normal); (case he => exact evr_); (case hg => rfl))
    all_goals first | rfl | (apply Keeps.fr; (case h => exact fr_); (case hv => exact plR.nm rfl))
set_option maxHeartbeats 4000000 in
theorem awake09 {s : AHeap} : ACall Try.prog 9 [] s (.bool true) s := by
  refine ACall.make Try.func9 rfl (by kernel_rfl) (by decide) rfl (fun N hN => ?_)
  have hT : Top N s := hN
  obtain ⟨s1, hs1⟩ : ∃ s1, s1 = (s.set N (.cells true 3 (ecs [e1, e2]))).set (N + 1) (.cells true 1 (ints [1, 2, 3])) := ⟨_, rfl⟩
  have T1 : Top (N + 2) s1 := by rw [hs1]; exact hT.new.new
  have F1 : Fr s1 s [] := by rw [hs1]; exact Fr.new (hT.free (by omega)) (Fr.new (hT.free (Nat.le_refl _)) (Fr.refl _ _))
  have aE : At s1 N (.cells true 3 (ecs [e1, e2])) := by rw [hs1]; exact at_
  have aN : At s1 (N + 1) (.cells true 1 (ints [1, 2, 3])) := by rw [hs1]; exact At.hit
  have c18 := view10 (nodes := [1, 2, 3]) (l := [e1, e2]) (mk := [e1, e2]) aN aE aE (by decide) (by decide) (by decide) (by rw [vl_el]; decide)
  rw [vl_el] at c18
  rw [hs1] at c18
  (repeat' (first | (apply Ab.K.ev; exact ev_) | (apply Ab.K.aops; first | (apply Xg.s; constructor) | (apply Ab.S.guardU; (case hd => rfl); (case hb => (exact ev_; done))) | apply Ab.S.guardG) | (apply Ab.K.aop; first | (first | (apply Ab.O.callFE; (case ha => exact evs_); (case hc => exact c18)) | (apply Ab.O.buildSlice N (te := ⟨.struct [(0, 3), (1, 3), (2, 3)], 3, 24, .agg #[.int .i64 0, .int .i64 0, .int .i64 0]⟩) (c := ecs [e1, e2]); (case hp => exact evp_); (case hz => exact ⟨rfl, by decide, rfl⟩); (case hc => rfl); (case hid => exact hT.free (Nat.le_refl _))) | (apply Ab.O.buildSlice (N + 1) (te := ⟨.int .i64, 1, 8, .int .i64 0⟩) (c := ints [1, 2, 3]); (case hp => exact evp_); (case hz => exact ⟨rfl, by decide, rfl⟩); (case hc => rfl); (case hid => exact hT.new.free (Nat.le_refl _)))) | (apply Og.s; constructor)) | (apply Ab.K.gk; first | (apply Xg.s; constructor) | (apply Ab.gY; case hw => assumption) | (apply Ab.gNT; case hw => assumption) | (apply Ab.gNF; case hw => assumption) | ((first | apply Ab.gD | apply Ab.gDN); all_goals (intro _ _; (first | contradiction | (exfalso; omega) | skip)))) | (apply Ab.K.awp; first | (apply Xg.s; constructor)) | (apply Ab.K.at_; exact at_) | (apply Ab.K.acall; first | assumption | fail) | (apply Ab.Rg.mk; omega) | (apply Ab.Lt.mk; first | decide | (simp; done) | (simp; omega) | fail) | (apply Ab.Get.mk; first | rfl | rfl) | (apply Ab.Nm.mk; first | exact nrm_) | (apply Xg.s; constructor) | (apply Ab.asm; assumption) | rfl | infer_instance | decide))
  rintro v s2 ⟨u, rfl, hu, rfl⟩
  rw [← hs1] at hu ⊢
  clear c18
  obtain ⟨M, hM, hMN⟩ : ∃ M, u < M ∧ N + 2 ≤ M := ⟨max (u + 1) (N + 2), by omega, by omega⟩
  obtain ⟨w2, hw2⟩ : ∃ w2, w2 = s1.set u (.cells true 5 (kcs vl)) := ⟨_, rfl⟩
  have T2 : Top M w2 := by rw [hw2]; exact (T1.mono hMN).set hM
  have F2 : Fr w2 s [] := by rw [hw2]; exact fun i hi c hc => Fr.new (free_of hu) (Fr.refl s1 []) i hi c (F1 i hi c hc)
  have hNu : N + 1 ≠ u := fun e => by rw [← e, aN.eq] at hu; cases hu
  have aN2 : At w2 (N + 1) (.cells true 1 (ints [1, 2, 3])) := by rw [hw2]; exact At.miss hNu aN
  have aK2 : At w2 u (.cells true 5 (kcs vl)) := by rw [hw2]; exact At.hit
  obtain ⟨w3, hw3⟩ : ∃ w3, w3 = (w2.set M (.cells true 1 [.slice none 0 0, .slice none 0 0])).set M (.cells true 1 [.slice (some ⟨N + 1, 0, none⟩) 3 3, .slice (some ⟨u, 0, none⟩) 4 4]) := ⟨_, rfl⟩
  have F3 : Fr w3 s [] := by rw [hw3, AHeap.set_set]; exact Fr.new (hT.free (by omega)) F2
  have aN3 : At w3 (N + 1) (.cells true 1 (ints [1, 2, 3])) := by rw [hw3]; exact at_
  have aK3 : At w3 u (.cells true 5 (kcs vl)) := by rw [hw3]; exact at_
  have aV3 : At w3 M (.cells true 1 [.slice (some ⟨N + 1, 0, none⟩) 3 3, .slice (some ⟨u, 0, none⟩) 4 4]) := by rw [hw3]; exact At.hit
  have hV : VAt w3 (some ⟨N + 1, 0, none⟩) (some ⟨u, 0, none⟩) 3 3 4 4 [1, 2, 3] vl := ⟨by decide, by decide, ⟨_, NA.own aN3⟩, ⟨_, KA.own aK3⟩⟩
  have c10 := hopR (a := 3) (b := 1) hV
  have c12 := leaderR (a := 3) hV
  rw [vl_hopV, vl_hopE] at c10
  rw [vl_ldr, vl_chk] at c12
  rw [hw3] at c10 c12
  rw [← hw2]


  (repeat' (first | (apply Ab.K.ev; exact ev_) | (apply Ab.K.aops; first | (apply Xg.s; constructor) | (apply Ab.S.guardU; (case hd => rfl); (case hb => (exact ev_; done))) | apply Ab.S.guardG) | (apply Ab.K.aop; first | (first | (apply Ab.O.allocA (l := [.slice none 0 0, .slice none 0 0]) M; (case hid => exact T2.free (Nat.le_refl _)); (case hp => rfl)) | (apply Ab.O.storeAll; (case hz => rfl); (case hx => exact ev_); (case hy => exact ev_); (case hs => exact at_); (case hl => rfl); (case hc => rfl))) | (apply Og.s; constructor)) | (apply Ab.K.gk; first | (apply Xg.s; constructor) | (apply Ab.gY; case hw => assumption) | (apply Ab.gNT; case hw => assumption) | (apply Ab.gNF; case hw => assumption) | ((first | apply Ab.gD | apply Ab.gDN); all_goals (intro _ _; (first | contradiction | (exfalso; omega) | skip)))) | (apply Ab.K.awp; first | (apply Xg.s; constructor)) | (apply Ab.K.at_; exact at_) | (apply Ab.K.acall; first | assumption | first | exact c10 | exact c12) | (apply Ab.Rg.mk; omega) | (apply Ab.Lt.mk; first | decide | (simp; done) | (simp; omega) | fail) | (apply Ab.Get.mk; first | rfl | rfl) | (apply Ab.Nm.mk; first | exact (show (([.slice (some ⟨N + 1, 0, none⟩) 3 3, .slice (some ⟨u, 0, none⟩) 4 4] : List Value).drop 0).take 2 = [.slice (some ⟨N + 1, 0, none⟩) 3 3, .slice (some ⟨u, 0, none⟩) 4 4] from rfl) | exact nrm_) | (apply Xg.s; constructor) | (apply Ab.asm; assumption) | rfl | infer_instance | decide))
  all_goals ((first | apply RetQ.ret | apply RetQ.normal); (case he => exact evr_); (case hg => rfl))
  all_goals first | rfl | (rw [← hw3]; exact Keeps.fr F3 (plR.nm rfl))
end Go.Proofs.Ytdbnpghckgmaoaa

/- routes: the next node from any to any; the way back. -/
namespace Go.Proofs.Ytdbnpghckgmaoaa
set_option linter.unusedVariables false
set_option linter.unusedSimpArgs false
set_option linter.unusedSectionVars false
open Go.RowKit Ab TP VP
theorem lightB_iff {n m : Nat} : lightB n m = true ↔ n ≤ 70 ∧ m ≤ 60 := by simp [lightB]
theorem vat {s : AHeap} {A B : Option Addr} {n c m d : Nat} {on ol : Option Nat} {nodes : List Int} {K : List Kn} (hN : NA s (.slice A n c) on nodes) (hL : KA s (.slice B m d) ol K) (h : lightB n m = true) : VAt s A B n c m d nodes K := by
  obtain ⟨h1, h2⟩ := lightB_iff.1 h
  exact ⟨by omega, by omega, ⟨_, hN⟩, ⟨_, hL⟩⟩
/-- All of a way of bound edges are nodes that are told. -/
theorem way_in {nodes : List Int} {K : List Kn} (h : MayV nodes K) {a b : Int} {p : List Int} (hw : TP.Way (bnd K) a b p) (ha : a ∈ nodes) : ∀ x ∈ p, x ∈ nodes := by
  induction hw with
  | one a => intro x hx; rw [List.mem_singleton] at hx; subst hx; exact ha
  | cons hadj hn0 hr0 ih =>
    rename_i a b c p
    intro x hx
    have hb : b ∈ nodes := by
      obtain ⟨e, he, hh⟩ := hadj
      obtain ⟨_, h1, h2, _⟩ := bnd_mem h.1 h.2 he
      rcases hh with ⟨_, rfl⟩ | ⟨rfl, _⟩
      · exact h2
      · exact h1
    rcases List.mem_cons.1 hx with rfl | hx
    · exact ha
    · exact ih hb x hx
theorem back_ok {nodes : List Int} {K : List Kn} {a b : Int} (hck : chk nodes K a = 0) (hab : a ≠ b) (h : hopE nodes K a b = 0) : hopE nodes K (hopV nodes K a b) a = 0 ∧ hopV nodes K (hopV nodes K a b) a = a ∧ hopV nodes K a b ≠ a := by
  obtain ⟨hMV, ha, hfo, hin⟩ := chk_zero hck
  obtain ⟨hb, _, hlk⟩ := hop_ok.1 h
  obtain ⟨p, hp⟩ := Way.ex (lkB_iff.1 hlk).2.2
  have hc := hMV.cut hfo
  have hn := nxt_eq hc hp
  rw [hopV_ok h]
  have hins := way_in hMV hp hin
  have hnd := hp.nodes (Good.node hMV.good) ha
  cases hp with
  | one => exact absurd rfl hab
  | cons hadj hnot r =>
    rename_i x q
    obtain ⟨t, ht⟩ := r.head
    have hx : nxt (bnd K) a b = x := by rw [ht] at hn; exact (Option.some.inj hn).symm
    rw [hx]
    have hxq : x ∈ q := r.mem_first
    have hxa : x ≠ a := fun e => hnot (e ▸ hxq)
    have hxN : x ∈ nodes := hins x (by simp [hxq])
    have hxn : TP.Node x := hnd x (by simp [hxq])
    have hw : TP.Way (bnd K) x a [x, a] := .cons hadj.symm (by simpa using hxa) (.one a)
    have hckx := chk_of hMV hxn hfo hxN
    have hE : hopE nodes K x a = 0 := hop_ok.2 ⟨ha, hckx, lkB_iff.2 ⟨hxn, ha, hw.conn⟩⟩
    refine ⟨hE, ?_, hxa⟩
    rw [hopV_ok hE]
    exact (Option.some.inj (nxt_eq hc hw)).symm
attribute [local irreducible] AOps AOpsD AOp AWp put nargs AHeap.set At Free ACall ACallE thenQ blockQ roundQ RetQ RetE Src Gr side lkN chk hopE hopV ldr nxt VP.bnd inn mvB reachB lkB foB tblN vlinks



set_option maxHeartbeats 4000000 in
theorem law3 {s : AHeap} {A B : Option Addr} {n c m d : Nat} {on ol : Option Nat} {nodes : List Int} {K : List Kn} {a b : Int} (hN : NA s (.slice A n c) on nodes) (hL : KA s (.slice B m d) ol K) :
    ACall Try.prog 3 [.agg #[.slice A n c, .slice B m d], .int .i64 a, .int .i64 b] s (.bool true) s := by
  refine ACall.make Try.func3 rfl (by kernel_rfl) (by decide) rfl (fun N hN0 => ?_)
  have hT : Top N s := hN0
  have F1 : Fr (s.set N (.cells true 1 [.slice A n c, .slice B m d])) s [] := Fr.new (hT.free (Nat.le_refl _)) (Fr.refl _ _)
  have aw : ∀ s : AHeap, ACall Try.prog 9 [] s (.bool true) s := fun s => awake09
  have c8 : ∀ s : AHeap, ACall Try.prog 8 [.agg #[.slice A n c, .slice B m d]] s (.bool (lightB n m)) s := fun s => lightL
  cases hli : lightB n m
  · rw [hli] at c8
    (repeat' (first | (apply Ab.K.ev; exact ev_) | (apply Ab.K.aops; first | (apply Xg.s; constructor) | (apply Ab.S.guardU; (case hd => rfl); (case hb => (exact ev_; done))) | apply Ab.S.guardG) | (apply Ab.K.aop; first | (apply Ab.O.boxA (l := [.slice A n c, .slice B m d]) N; (case hx => exact ev_); (case hid => exact hT.free (Nat.le_refl _))) | (apply Og.s; constructor)) | (apply Ab.K.gk; first | (apply Xg.s; constructor) | (apply Ab.gY; case hw => assumption) | (apply Ab.gNT; case hw => assumption) | (apply Ab.gNF; case hw => assumption) | ((first | apply Ab.gD | apply Ab.gDN); all_goals (intro _ _; (first | contradiction | (exfalso; omega) | skip)))) | (apply Ab.K.awp; first | (apply Xg.s; constructor)) | (apply Ab.K.at_; exact at_) | (apply Ab.K.acall; first | assumption | first | exact c8 _ | exact aw _) | (apply Ab.Rg.mk; omega) | (apply Ab.Lt.mk; first | decide | (simp; done) | (simp; omega) | fail) | (apply Ab.Get.mk; first | rfl | rfl) | (apply Ab.Nm.mk; first | exact (show (([.slice A n c, .slice B m d] : List Value).drop 0).take 2 = [.slice A n c, .slice B m d] from rfl) | exact nrm_) | (apply Xg.s; constructor) | (apply Ab.asm; assumption) | rfl | infer_instance | decide))
    all_goals ((first | apply RetQ.ret | apply RetQ.normal); (case he => exact evr_); (case hg => rfl))
    all_goals first | rfl | (apply Keeps.fr; (case h => exact fr_); (case hv => exact plR.nm rfl))
  rw [hli] at c8
  have hV := (vat hN hL hli).fr F1
  have c10 := hopR (a := a) (b := b) hV
  have c11 := hop11 (a := a) (b := b) hV
  have c12 := leaderR (a := a) hV
  have c13 := leader11 (a := a) hV
  (repeat' (first | (apply Ab.K.ev; exact ev_) | (apply Ab.K.aops; first | (apply Xg.s; constructor) | (apply Ab.S.guardU; (case hd => rfl); (case hb => (exact ev_; done))) | apply Ab.S.guardG) | (apply Ab.K.aop; first | (apply Ab.O.boxA (l := [.slice A n c, .slice B m d]) N; (case hx => exact ev_); (case hid => exact hT.free (Nat.le_refl _))) | (apply Og.s; constructor)) | (apply Ab.K.gk; first | (apply Xg.s; constructor) | (apply Ab.gY; case hw => assumption) | (apply Ab.gNT; case hw => assumption) | (apply Ab.gNF; case hw => assumption) | ((first | apply Ab.gD | apply Ab.gDN); all_goals (intro _ _; (first | contradiction | (exfalso; omega) | skip)))) | (apply Ab.K.awp; first | (apply Xg.s; constructor)) | (apply Ab.K.at_; exact at_) | (apply Ab.K.acall; first | assumption | first | exact c8 _ | exact c10 | exact c11 | exact c12 | exact c13 | exact aw _) | (apply Ab.Rg.mk; omega) | (apply Ab.Lt.mk; first | decide | (simp; done) | (simp; omega) | fail) | (apply Ab.Get.mk; first | rfl | rfl) | (apply Ab.Nm.mk; first | exact (show (([.slice A n c, .slice B m d] : List Value).drop 0).take 2 = [.slice A n c, .slice B m d] from rfl) | exact nrm_) | (apply Xg.s; constructor) | (apply Ab.asm; assumption) | rfl | infer_instance | decide))
  all_goals ((first | apply RetQ.ret | apply RetQ.normal); (case he => exact evr_); (case hg => rfl))
  all_goals first | rfl | (apply Keeps.fr; (case h => exact fr_); (case hv => exact plR.nm rfl))
set_option maxHeartbeats 4000000 in
theorem law5 {s : AHeap} {A B : Option Addr} {n c m d : Nat} {on ol : Option Nat} {nodes : List Int} {K : List Kn} {a b : Int} (hN : NA s (.slice A n c) on nodes) (hL : KA s (.slice B m d) ol K) :
    ACall Try.prog 5 [.agg #[.slice A n c, .slice B m d], .int .i64 a, .int .i64 b] s (.bool true) s := by
  refine ACall.make Try.func5 rfl (by kernel_rfl) (by decide) rfl (fun N hN0 => ?_)
  have hT : Top N s := hN0
  have F1 : Fr (s.set N (.cells true 1 [.slice A n c, .slice B m d])) s [] := Fr.new (hT.free (Nat.le_refl _)) (Fr.refl _ _)
  have aw : ∀ s : AHeap, ACall Try.prog 9 [] s (.bool true) s := fun s => awake09
  have c8 : ∀ s : AHeap, ACall Try.prog 8 [.agg #[.slice A n c, .slice B m d]] s (.bool (lightB n m)) s := fun s => lightL
  cases hli : lightB n m
  · rw [hli] at c8
    (repeat' (first | (apply Ab.K.ev; exact ev_) | (apply Ab.K.aops; first | (apply Xg.s; constructor) | (apply Ab.S.guardU; (case hd => rfl); (case hb => (exact ev_; done))) | apply Ab.S.guardG) | (apply Ab.K.aop; first | (apply Ab.O.boxA (l := [.slice A n c, .slice B m d]) N; (case hx => exact ev_); (case hid => exact hT.free (Nat.le_refl _))) | (apply Og.s; constructor)) | (apply Ab.K.gk; first | (apply Xg.s; constructor) | (apply Ab.gY; case hw => assumption) | (apply Ab.gNT; case hw => assumption) | (apply Ab.gNF; case hw => assumption) | ((first | apply Ab.gD | apply Ab.gDN); all_goals (intro _ _; (first | contradiction | (exfalso; omega) | skip)))) | (apply Ab.K.awp; first | (apply Xg.s; constructor)) | (apply Ab.K.at_; exact at_) | (apply Ab.K.acall; first | assumption | first | exact c8 _ | exact aw _) | (apply Ab.Rg.mk; omega) | (apply Ab.Lt.mk; first | decide | (simp; done) | (simp; omega) | fail) | (apply Ab.Get.mk; first | rfl | rfl) | (apply Ab.Nm.mk; first | exact (show (([.slice A n c, .slice B m d] : List Value).drop 0).take 2 = [.slice A n c, .slice B m d] from rfl) | exact nrm_) | (apply Xg.s; constructor) | (apply Ab.asm; assumption) | rfl | infer_instance | decide))
    all_goals ((first | apply RetQ.ret | apply RetQ.normal); (case he => exact evr_); (case hg => rfl))
    all_goals first | rfl | (apply Keeps.fr; (case h => exact fr_); (case hv => exact plR.nm rfl))
  rw [hli] at c8
  have hV := (vat hN hL hli).fr F1
  have c14 := check11 (a := a) hV
  by_cases hck : chk nodes K a = 0
  case neg =>
    (repeat' (first | (apply Ab.K.ev; exact ev_) | (apply Ab.K.aops; first | (apply Xg.s; constructor) | (apply Ab.S.guardU; (case hd => rfl); (case hb => (exact ev_; done))) | apply Ab.S.guardG) | (apply Ab.K.aop; first | (apply Ab.O.boxA (l := [.slice A n c, .slice B m d]) N; (case hx => exact ev_); (case hid => exact hT.free (Nat.le_refl _))) | (apply Og.s; constructor)) | (apply Ab.K.gk; first | (apply Xg.s; constructor) | (apply Ab.gY; case hw => assumption) | (apply Ab.gNT; case hw => assumption) | (apply Ab.gNF; case hw => assumption) | ((first | apply Ab.gD | apply Ab.gDN); all_goals (intro _ _; (first | contradiction | (exfalso; omega) | skip)))) | (apply Ab.K.awp; first | (apply Xg.s; constructor)) | (apply Ab.K.at_; exact at_) | (apply Ab.K.acall; first | assumption | first | exact c8 _ | exact c14 | exact aw _) | (apply Ab.Rg.mk; omega) | (apply Ab.Lt.mk; first | decide | (simp; done) | (simp; omega) | fail) | (apply Ab.Get.mk; first | rfl | rfl) | (apply Ab.Nm.mk; first | exact (show (([.slice A n c, .slice B m d] : List Value).drop 0).take 2 = [.slice A n c, .slice B m d] from rfl) | exact nrm_) | (apply Xg.s; constructor) | (apply Ab.asm; assumption) | rfl | infer_instance | decide))
    all_goals ((first | apply RetQ.ret | apply RetQ.normal); (case he => exact evr_); (case hg => rfl))
    all_goals first | rfl | (apply Keeps.fr; (case h => exact fr_); (case hv => exact plR.nm rfl))
  have c10 := hopR (a := a) (b := b) hV
  have c10b := hopR (a := hopV nodes K a b) (b := a) hV
  by_cases hab : a = b
  · (repeat' (first | (apply Ab.K.ev; exact ev_) | (apply Ab.K.aops; first | (apply Xg.s; constructor) | (apply Ab.S.guardU; (case hd => rfl); (case hb => (exact ev_; done))) | apply Ab.S.guardG) | (apply Ab.K.aop; first | (apply Ab.O.boxA (l := [.slice A n c, .slice B m d]) N; (case hx => exact ev_); (case hid => exact hT.free (Nat.le_refl _))) | (apply Og.s; constructor)) | (apply Ab.K.gk; first | (apply Xg.s; constructor) | (apply Ab.gY; case hw => assumption) | (apply Ab.gNT; case hw => assumption) | (apply Ab.gNF; case hw => assumption) | ((first | apply Ab.gD | apply Ab.gDN); all_goals (intro _ _; (first | contradiction | (exfalso; omega) | skip)))) | (apply Ab.K.awp; first | (apply Xg.s; constructor)) | (apply Ab.K.at_; exact at_) | (apply Ab.K.acall; first | assumption | first | exact c8 _ | exact c14 | exact c10 | exact c10b | exact aw _) | (apply Ab.Rg.mk; omega) | (apply Ab.Lt.mk; first | decide | (simp; done) | (simp; omega) | fail) | (apply Ab.Get.mk; first | rfl | rfl) | (apply Ab.Nm.mk; first | exact (show (([.slice A n c, .slice B m d] : List Value).drop 0).take 2 = [.slice A n c, .slice B m d] from rfl) | exact nrm_) | (apply Xg.s; constructor) | (apply Ab.asm; assumption) | rfl | infer_instance | decide))
    all_goals ((first | apply RetQ.ret | apply RetQ.normal); (case he => exact evr_); (case hg => rfl))
    all_goals first | rfl | (apply Keeps.fr; (case h => exact fr_); (case hv => exact plR.nm rfl))
  by_cases hE : hopE nodes K a b = 0
  case neg =>
    (repeat' (first | (apply Ab.K.ev; exact ev_) | (apply Ab.K.aops; first | (apply Xg.s; constructor) | (apply Ab.S.guardU; (case hd => rfl); (case hb => (exact ev_; done))) | apply Ab.S.guardG) | (apply Ab.K.aop; first | (apply Ab.O.boxA (l := [.slice A n c, .slice B m d]) N; (case hx => exact ev_); (case hid => exact hT.free (Nat.le_refl _))) | (apply Og.s; constructor)) | (apply Ab.K.gk; first | (apply Xg.s; constructor) | (apply Ab.gY; case hw => assumption) | (apply Ab.gNT; case hw => assumption) | (apply Ab.gNF; case hw => assumption) | ((first | apply Ab.gD | apply Ab.gDN); all_goals (intro _ _; (first | contradiction | (exfalso; omega) | skip)))) | (apply Ab.K.awp; first | (apply Xg.s; constructor)) | (apply Ab.K.at_; exact at_) | (apply Ab.K.acall; first | assumption | first | exact c8 _ | exact c14 | exact c10 | exact c10b | exact aw _) | (apply Ab.Rg.mk; omega) | (apply Ab.Lt.mk; first | decide | (simp; done) | (simp; omega) | fail) | (apply Ab.Get.mk; first | rfl | rfl) | (apply Ab.Nm.mk; first | exact (show (([.slice A n c, .slice B m d] : List Value).drop 0).take 2 = [.slice A n c, .slice B m d] from rfl) | exact nrm_) | (apply Xg.s; constructor) | (apply Ab.asm; assumption) | rfl | infer_instance | decide))
    all_goals ((first | apply RetQ.ret | apply RetQ.normal); (case he => exact evr_); (case hg => rfl))
    all_goals first | rfl | (apply Keeps.fr; (case h => exact fr_); (case hv => exact plR.nm rfl))
  obtain ⟨h1, h2, h3⟩ := back_ok hck hab hE
  rw [h1, h2] at c10b
  (repeat' (first | (apply Ab.K.ev; exact ev_) | (apply Ab.K.aops; first | (apply Xg.s; constructor) | (apply Ab.S.guardU; (case hd => rfl); (case hb => (exact ev_; done))) | apply Ab.S.guardG) | (apply Ab.K.aop; first | (apply Ab.O.boxA (l := [.slice A n c, .slice B m d]) N; (case hx => exact ev_); (case hid => exact hT.free (Nat.le_refl _))) | (apply Og.s; constructor)) | (apply Ab.K.gk; first | (apply Xg.s; constructor) | (apply Ab.gY; case hw => assumption) | (apply Ab.gNT; case hw => assumption) | (apply Ab.gNF; case hw => assumption) | ((first | apply Ab.gD | apply Ab.gDN); all_goals (intro _ _; (first | contradiction | (exfalso; omega) | skip)))) | (apply Ab.K.awp; first | (apply Xg.s; constructor)) | (apply Ab.K.at_; exact at_) | (apply Ab.K.acall; first | assumption | first | exact c8 _ | exact c14 | exact c10 | exact c10b | exact aw _) | (apply Ab.Rg.mk; omega) | (apply Ab.Lt.mk; first | decide | (simp; done) | (simp; omega) | fail) | (apply Ab.Get.mk; first | rfl | rfl) | (apply Ab.Nm.mk; first | exact (show (([.slice A n c, .slice B m d] : List Value).drop 0).take 2 = [.slice A n c, .slice B m d] from rfl) | exact nrm_) | (apply Xg.s; constructor) | (apply Ab.asm; assumption) | rfl | infer_instance | decide))
  all_goals ((first | apply RetQ.ret | apply RetQ.normal); (case he => exact evr_); (case hg => rfl))
  all_goals first | rfl | (apply Keeps.fr; (case h => exact fr_); (case hv => exact plR.nm rfl))
end Go.Proofs.Ytdbnpghckgmaoaa
