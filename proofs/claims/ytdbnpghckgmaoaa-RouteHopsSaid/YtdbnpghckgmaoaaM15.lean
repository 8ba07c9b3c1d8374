/- texts of this claim, one behind the other: VI, VJ, VK, VL, VM, VN. -/
import Derived.Test.YtdbnpghckgmaoaaM11
import Derived.Test.YtdbnpghckgmaoaaM14

/- routes: the next hop and the leader, by the program. -/
namespace Go.Proofs.Ytdbnpghckgmaoaa
set_option linter.unusedVariables false
set_option linter.unusedSimpArgs false
set_option linter.unusedSectionVars false
open Go.RowKit Ab TP VP
/-- The next node of a way. -/
noncomputable def nxt (l : List E) (a b : Int) : Int := open Classical in if h : ∃ p, TP.Way l a b p then ((h.choose ++ [b])[1]?).getD 0 else 0
theorem nxt_eq {l : List E} (hc : Cut l) {a b : Int} {p : List Int} (hw : TP.Way l a b p) : (p ++ [b])[1]? = some (nxt l a b) := by
  have h : ∃ p, TP.Way l a b p := ⟨p, hw⟩
  unfold nxt
  rw [dif_pos h, hw.uniq hc h.choose_spec]
  have hp : 1 ≤ p.length := by obtain ⟨t, ht⟩ := hw.head; rw [ht]; simp
  rw [List.getElem?_eq_getElem (show 1 < (p ++ [b]).length by simp; omega)]
  rfl
noncomputable def hopE (nodes : List Int) (L : List Kn) (a b : Int) : Int := if TP.Node b then (if chk nodes L a = 0 then (if lkB (bnd L) a b = true then 0 else 9) else chk nodes L a) else 1
noncomputable def hopV (nodes : List Int) (L : List Kn) (a b : Int) : Int := if hopE nodes L a b = 0 then nxt (bnd L) a b else 0
theorem hop_bad {nodes : List Int} {L : List Kn} {a b : Int} (h : hopE nodes L a b ≠ 0) : hopV nodes L a b = 0 := if_neg h
theorem hop_ok {nodes : List Int} {L : List Kn} {a b : Int} : hopE nodes L a b = 0 ↔ TP.Node b ∧ chk nodes L a = 0 ∧ lkB (bnd L) a b = true := by
  unfold hopE
  constructor
  · intro h
    split at h
    · rename_i h1
      split at h
      · rename_i h2
        split at h
        · rename_i h3; exact ⟨h1, h2, h3⟩
        · omega
      · rename_i h2; exact absurd h h2
    · omega
  · rintro ⟨h1, h2, h3⟩; rw [if_pos h1, if_pos h2, if_pos h3]
theorem VP.MayV.cut {nodes : List Int} {L : List Kn} (h : MayV nodes L) (hf : Forest (bnd L)) : Cut (bnd L) := hf.cut h.good.2.nodup
noncomputable def ldr (nodes : List Int) (L : List Kn) (a : Int) : Int := if chk nodes L a = 0 then (side (bnd L) a).headD 0 else 0
theorem hopE_node {nodes : List Int} {L : List Kn} {a b : Int} (hb : ¬ TP.Node b) : hopE nodes L a b = 1 := if_neg hb
theorem hopV_ok {nodes : List Int} {L : List Kn} {a b : Int} (h : hopE nodes L a b = 0) : hopV nodes L a b = nxt (bnd L) a b := if_pos h
theorem ldr_no {nodes : List Int} {L : List Kn} {a : Int} (h : ¬ chk nodes L a = 0) : ldr nodes L a = 0 := if_neg h
theorem ldr_ok {nodes : List Int} {L : List Kn} {a : Int} (h : chk nodes L a = 0) : ldr nodes L a = (side (bnd L) a).headD 0 := if_pos h
theorem side_head {l : List E} {a : Int} (hg : TP.Good l) (ha : TP.Node a) : (side l a)[0]? = some ((side l a).headD 0) := by
  have hm := (side_mem (Good.node hg) ha (x := a)).2 (.refl a)
  match side l a, hm with
  | x :: t, _ => rfl
attribute [local irreducible] AOps AOpsD AOp AWp put nargs AHeap.set At Free ACall ACallE thenQ blockQ roundQ RetQ RetE Src Gr side lkN chk hopE hopV ldr nxt VP.bnd inn mvB reachB lkB foB



set_option maxHeartbeats 4000000 in
theorem hopR {s : AHeap} {A B : Option Addr} {n c m d : Nat} {nodes : List Int} {L : List Kn} {a b : Int} (h : VAt s A B n c m d nodes L) :
    ACall Try.prog 10 [.agg #[.slice A n c, .slice B m d], .int .i64 a, .int .i64 b] s (.tuple #[.int .i64 (hopV nodes L a b), .int .i64 (hopE nodes L a b)]) s := by
  refine ACall.make Try.func10 rfl (by kernel_rfl) (by decide) rfl (fun N hN0 => ?_)
  have hT : Top N s := hN0
  have F1 : Fr (s.set N (.cells true 1 [.slice A n c, .slice B m d])) s [] := Fr.new (hT.free (Nat.le_refl _)) (Fr.refl _ _)
  have c29 : ∀ s : AHeap, ACall Try.prog 20 [.int .i64 b] s (.bool (decide (TP.Node b))) s := fun s => node29
  by_cases hb : TP.Node b
  case neg =>
    have hE : hopE nodes L a b = 1 := hopE_node hb
    have hV : hopV nodes L a b = 0 := hop_bad (by rw [hE]; decide)
    rw [hE, hV]
    rw [decide_eq_false hb] at c29
    by_cases hck : chk nodes L a = 0
    · have c19 := boundR_yes (h.fr F1) hck
      (repeat' (first | (apply Ab.K.ev; exact ev_) | (apply Ab.K.aops; first | (apply Xg.s; constructor) | (apply Ab.S.guardU; (case hd => rfl); (case hb => (exact ev_; done))) | apply Ab.S.guardG) | (apply Ab.K.aop; first | (first | (apply Ab.O.boxA (l := [.slice A n c, .slice B m d]) N; (case hx => exact ev_); (case hid => exact hT.free (Nat.le_refl _))) | (apply Ab.O.callFE; (case ha => exact evs_); (case hc => exact c19))) | (apply Og.s; constructor)) | (apply Ab.K.gk; first | (apply Xg.s; constructor) | (apply Ab.gY; case hw => assumption) | (apply Ab.gNT; case hw => assumption) | (apply Ab.gNF; case hw => assumption) | ((first | apply Ab.gD | apply Ab.gDN); all_goals (intro _ _; (first | contradiction | (exfalso; omega) | skip)))) | (apply Ab.K.awp; first | (apply Xg.s; constructor)) | (apply Ab.K.at_; exact at_) | (apply Ab.K.acall; first | assumption | fail) | (apply Ab.Rg.mk; omega) | (apply Ab.Lt.mk; first | decide | (simp; done) | (simp; omega) | fail) | (apply Ab.Get.mk; first | rfl | rfl) | (apply Ab.Nm.mk; first | exact (show (([.slice A n c, .slice B m d] : List Value).drop 0).take 2 = [.slice A n c, .slice B m d] from rfl) | exact nrm_) | (apply Xg.s; constructor) | (apply Ab.asm; assumption) | rfl | infer_instance | decide))
      rintro v2 s2 ⟨w, rfl, hw⟩
      clear c19
      have F2 : Fr s2 s [] := fun i hi c hc => hw.fr i hi c (F1 i hi c hc)
      (repeat' (first | (apply Ab.K.ev; exact ev_) | (apply Ab.K.aops; first | (apply Xg.s; constructor) | (apply Ab.S.guardU; (case hd => rfl); (case hb => (exact ev_; done))) | apply Ab.S.guardG) | (apply Ab.K.aop; first | (apply Og.s; constructor)) | (apply Ab.K.gk; first | (apply Xg.s; constructor) | (apply Ab.gY; case hw => assumption) | (apply Ab.gNT; case hw => assumption) | (apply Ab.gNF; case hw => assumption) | ((first | apply Ab.gD | apply Ab.gDN); all_goals (intro _ _; (first | contradiction | (exfalso; omega) | skip)))) | (apply Ab.K.awp; first | (apply Xg.s; constructor)) | (apply Ab.K.at_; exact at_) | (apply Ab.K.acall; first | assumption | exact c29 _) | (apply Ab.Rg.mk; omega) | (apply Ab.Lt.mk; first | decide | (simp; done) | (simp; omega) | fail) | (apply Ab.Get.mk; first | rfl | rfl) | (apply Ab.Nm.mk; first | exact (show (([.slice A n c, .slice B m d] : List Value).drop 0).take 2 = [.slice A n c, .slice B m d] from rfl) | exact nrm_) | (apply Xg.s; constructor) | (apply Ab.asm; assumption) | rfl | infer_instance | decide))
      all_goals ((first | apply RetQ.ret | apply RetQ.normal); (case he => exact evr_); (case hg => rfl))
      all_goals first | rfl | exact Keeps.fr F2 (plR.nm rfl)
    · have c19 := boundR_no (h.fr F1) hck

      (repeat' (first | (apply Ab.K.ev; exact ev_) | (apply Ab.K.aops; first | (apply Xg.s; constructor) | (apply Ab.S.guardU; (case hd => rfl); (case hb => (exact ev_; done))) | apply Ab.S.guardG) | (apply Ab.K.aop; first | (apply Ab.O.boxA (l := [.slice A n c, .slice B m d]) N; (case hx => exact ev_); (case hid => exact hT.free (Nat.le_refl _))) | (apply Og.s; constructor)) | (apply Ab.K.gk; first | (apply Xg.s; constructor) | (apply Ab.gY; case hw => assumption) | (apply Ab.gNT; case hw => assumption) | (apply Ab.gNF; case hw => assumption) | ((first | apply Ab.gD | apply Ab.gDN); all_goals (intro _ _; (first | contradiction | (exfalso; omega) | skip)))) | (apply Ab.K.awp; first | (apply Xg.s; constructor)) | (apply Ab.K.at_; exact at_) | (apply Ab.K.acall; first | assumption | first | exact c19 | exact c29 _) | (apply Ab.Rg.mk; omega) | (apply Ab.Lt.mk; first | decide | (simp; done) | (simp; omega) | fail) | (apply Ab.Get.mk; first | rfl | rfl) | (apply Ab.Nm.mk; first | exact (show (([.slice A n c, .slice B m d] : List Value).drop 0).take 2 = [.slice A n c, .slice B m d] from rfl) | exact nrm_) | (apply Xg.s; constructor) | (apply Ab.asm; assumption) | rfl | infer_instance | decide))
      all_goals ((first | apply RetQ.ret | apply RetQ.normal); (case he => exact evr_); (case hg => rfl))
      all_goals first | rfl | (apply Keeps.fr; (case h => exact fr_); (case hv => exact plR.nm rfl))
  rw [decide_eq_true hb] at c29
  by_cases hck : chk nodes L a = 0
  case neg =>
    have hE : hopE nodes L a b = chk nodes L a := by unfold hopE; rw [if_pos hb, if_neg hck]
    have hV : hopV nodes L a b = 0 := hop_bad (by rw [hE]; exact hck)
    rw [hE, hV]
    have c19 := boundR_no (h.fr F1) hck
    (repeat' (first | (apply Ab.K.ev; exact ev_) | (apply Ab.K.aops; first | (apply Xg.s; constructor) | (apply Ab.S.guardU; (case hd => rfl); (case hb => (exact ev_; done))) | apply Ab.S.guardG) | (apply Ab.K.aop; first | (apply Ab.O.boxA (l := [.slice A n c, .slice B m d]) N; (case hx => exact ev_); (case hid => exact hT.free (Nat.le_refl _))) | (apply Og.s; constructor)) | (apply Ab.K.gk; first | (apply Xg.s; constructor) | (apply Ab.gY; case hw => assumption) | (apply Ab.gNT; case hw => assumption) | (apply Ab.gNF; case hw => assumption) | ((first | apply Ab.gD | apply Ab.gDN); all_goals (intro _ _; (first | contradiction | (exfalso; omega) | skip)))) | (apply Ab.K.awp; first | (apply Xg.s; constructor)) | (apply Ab.K.at_; exact at_) | (apply Ab.K.acall; first | assumption | first | exact c19 | exact c29 _) | (apply Ab.Rg.mk; omega) | (apply Ab.Lt.mk; first | decide | (simp; done) | (simp; omega) | fail) | (apply Ab.Get.mk; first | rfl | rfl) | (apply Ab.Nm.mk; first | exact (show (([.slice A n c, .slice B m d] : List Value).drop 0).take 2 = [.slice A n c, .slice B m d] from rfl) | exact nrm_) | (apply Xg.s; constructor) | (apply Ab.asm; assumption) | rfl | infer_instance | decide))
    all_goals ((first | apply RetQ.ret | apply RetQ.normal); (case he => exact evr_); (case hg => rfl))
    all_goals first | rfl | (apply Keeps.fr; (case h => exact fr_); (case hv => exact plR.nm rfl))
  obtain ⟨hMV, ha, hfo, hin⟩ := chk_zero hck
  have bl : (bnd L).length ≤ 512 := by have := bnd_len hMV.2; have := h.mm; have := h.len; omega
  have c19 := boundR_yes (h.fr F1) hck

  (repeat' (first | (apply Ab.K.ev; exact ev_) | (apply Ab.K.aops; first | (apply Xg.s; constructor) | (apply Ab.S.guardU; (case hd => rfl); (case hb => (exact ev_; done))) | apply Ab.S.guardG) | (apply Ab.K.aop; first | (first | (apply Ab.O.boxA (l := [.slice A n c, .slice B m d]) N; (case hx => exact ev_); (case hid => exact hT.free (Nat.le_refl _))) | (apply Ab.O.callFE; (case ha => exact evs_); (case hc => exact c19))) | (apply Og.s; constructor)) | (apply Ab.K.gk; first | (apply Xg.s; constructor) | (apply Ab.gY; case hw => assumption) | (apply Ab.gNT; case hw => assumption) | (apply Ab.gNF; case hw => assumption) | ((first | apply Ab.gD | apply Ab.gDN); all_goals (intro _ _; (first | contradiction | (exfalso; omega) | skip)))) | (apply Ab.K.awp; first | (apply Xg.s; constructor)) | (apply Ab.K.at_; exact at_) | (apply Ab.K.acall; first | assumption | exact c29 _) | (apply Ab.Rg.mk; omega) | (apply Ab.Lt.mk; first | decide | (simp; done) | (simp; omega) | fail) | (apply Ab.Get.mk; first | rfl | rfl) | (apply Ab.Nm.mk; first | exact (show (([.slice A n c, .slice B m d] : List Value).drop 0).take 2 = [.slice A n c, .slice B m d] from rfl) | exact nrm_) | (apply Xg.s; constructor) | (apply Ab.asm; assumption) | rfl | infer_instance | decide))
  rintro v2 s2 ⟨w, rfl, hw⟩
  clear c19
  have F2 : Fr s2 s [] := fun i hi c hc => hw.fr i hi c (F1 i hi c hc)
  obtain ⟨C, cc, oe, rfl, hE⟩ := hw.ea rfl
  have hok : wOk (bnd L) a b = true := wOk_iff.2 ⟨hMV.good, hfo, ha, hb⟩
  cases hlk : lkB (bnd L) a b
  · have hnc : ¬ Conn (bnd L) a b := fun hcn => by rw [lkB_iff.2 ⟨ha, hb, hcn⟩] at hlk; cases hlk
    have hE2 : hopE nodes L a b = 9 := by unfold hopE; rw [if_pos hb, if_pos hck, if_neg (by rw [hlk]; simp)]
    have hV : hopV nodes L a b = 0 := hop_bad (by rw [hE2]; decide)
    rw [hE2, hV]
    have c21 := next12_err (by decide) (way11_none hE bl hok hnc)
    (repeat' (first | (apply Ab.K.ev; exact ev_) | (apply Ab.K.aops; first | (apply Xg.s; constructor) | (apply Ab.S.guardU; (case hd => rfl); (case hb => (exact ev_; done))) | apply Ab.S.guardG) | (apply Ab.K.aop; first | (apply Og.s; constructor)) | (apply Ab.K.gk; first | (apply Xg.s; constructor) | (apply Ab.gY; case hw => assumption) | (apply Ab.gNT; case hw => assumption) | (apply Ab.gNF; case hw => assumption) | ((first | apply Ab.gD | apply Ab.gDN); all_goals (intro _ _; (first | contradiction | (exfalso; omega) | skip)))) | (apply Ab.K.awp; first | (apply Xg.s; constructor)) | (apply Ab.K.at_; exact at_) | (apply Ab.K.acall; first | assumption | first | exact c29 _ | exact c21) | (apply Ab.Rg.mk; omega) | (apply Ab.Lt.mk; first | decide | (simp; done) | (simp; omega) | fail) | (apply Ab.Get.mk; first | rfl | rfl) | (apply Ab.Nm.mk; first | exact (show (([.slice A n c, .slice B m d] : List Value).drop 0).take 2 = [.slice A n c, .slice B m d] from rfl) | exact nrm_) | (apply Xg.s; constructor) | (apply Ab.asm; assumption) | rfl | infer_instance | decide))
    all_goals ((first | apply RetQ.ret | apply RetQ.normal); (case he => exact evr_); (case hg => rfl))
    all_goals first | rfl | exact Keeps.fr F2 (plR.nm rfl)
  · obtain ⟨p, hp⟩ := Way.ex (lkB_iff.1 hlk).2.2
    have hE2 : hopE nodes L a b = 0 := hop_ok.2 ⟨hb, hck, hlk⟩
    have hV : hopV nodes L a b = nxt (bnd L) a b := hopV_ok hE2
    rw [hE2, hV]
    have c21 := next12_yes (hp.short (Good.node hMV.good) ha) (by obtain ⟨t, ht⟩ := hp.head; rw [ht]; simp) (nxt_eq (hMV.cut hfo) hp) (fun o ho => way11_yes hE bl hok hp ho)
    (repeat' (first | (apply Ab.K.ev; exact ev_) | (apply Ab.K.aops; first | (apply Xg.s; constructor) | (apply Ab.S.guardU; (case hd => rfl); (case hb => (exact ev_; done))) | apply Ab.S.guardG) | (apply Ab.K.aop; first | (apply Og.s; constructor)) | (apply Ab.K.gk; first | (apply Xg.s; constructor) | (apply Ab.gY; case hw => assumption) | (apply Ab.gNT; case hw => assumption) | (apply Ab.gNF; case hw => assumption) | ((first | apply Ab.gD | apply Ab.gDN); all_goals (intro _ _; (first | contradiction | (exfalso; omega) | skip)))) | (apply Ab.K.awp; first | (apply Xg.s; constructor)) | (apply Ab.K.at_; exact at_) | (apply Ab.K.acall; first | assumption | first | exact c29 _ | exact c21) | (apply Ab.Rg.mk; omega) | (apply Ab.Lt.mk; first | decide | (simp; done) | (simp; omega) | fail) | (apply Ab.Get.mk; first | rfl | rfl) | (apply Ab.Nm.mk; first | exact (show (([.slice A n c, .slice B m d] : List Value).drop 0).take 2 = [.slice A n c, .slice B m d] from rfl) | exact nrm_) | (apply Xg.s; constructor) | (apply Ab.asm; assumption) | rfl | infer_instance | decide))
    all_goals ((first | apply RetQ.ret | apply RetQ.normal); (case he => exact evr_); (case hg => rfl))
    all_goals first | rfl | exact Keeps.fr F2 (plR.nm rfl)
set_option maxHeartbeats 4000000 in
theorem leaderR {s : AHeap} {A B : Option Addr} {n c m d : Nat} {nodes : List Int} {L : List Kn} {a : Int} (h : VAt s A B n c m d nodes L) :
    ACall Try.prog 12 [.agg #[.slice A n c, .slice B m d], .int .i64 a] s (.tuple #[.int .i64 (ldr nodes L a), .int .i64 (chk nodes L a)]) s := by
  refine ACall.make Try.func12 rfl (by kernel_rfl) (by decide) rfl (fun N hN0 => ?_)
  have hT : Top N s := hN0
  have F1 : Fr (s.set N (.cells true 1 [.slice A n c, .slice B m d])) s [] := Fr.new (hT.free (Nat.le_refl _)) (Fr.refl _ _)
  by_cases hck : chk nodes L a = 0
  case neg =>
    have hl : ldr nodes L a = 0 := ldr_no hck
    rw [hl]
    have c19 := boundR_no (h.fr F1) hck

    (repeat' (first | (apply Ab.K.ev; exact ev_) | (apply Ab.K.aops; first | (apply Xg.s; constructor) | (apply Ab.S.guardU; (case hd => rfl); (case hb => (exact ev_; done))) | apply Ab.S.guardG) | (apply Ab.K.aop; first | (apply Ab.O.boxA (l := [.slice A n c, .slice B m d]) N; (case hx => exact ev_); (case hid => exact hT.free (Nat.le_refl _))) | (apply Og.s; constructor)) | (apply Ab.K.gk; first | (apply Xg.s; constructor) | (apply Ab.gY; case hw => assumption) | (apply Ab.gNT; case hw => assumption) | (apply Ab.gNF; case hw => assumption) | ((first | apply Ab.gD | apply Ab.gDN); all_goals (intro _ _; (first | contradiction | (exfalso; omega) | skip)))) | (apply Ab.K.awp; first | (apply Xg.s; constructor)) | (apply Ab.K.at_; exact at_) | (apply Ab.K.acall; first | assumption | exact c19) | (apply Ab.Rg.mk; omega) | (apply Ab.Lt.mk; first | decide | (simp; done) | (simp; omega) | fail) | (apply Ab.Get.mk; first | rfl | rfl) | (apply Ab.Nm.mk; first | exact (show (([.slice A n c, .slice B m d] : List Value).drop 0).take 2 = [.slice A n c, .slice B m d] from rfl) | exact nrm_) | (apply Xg.s; constructor) | (apply Ab.asm; assumption) | rfl | infer_instance | decide))
    all_goals ((first | apply RetQ.ret | apply RetQ.normal); (case he => exact evr_); (case hg => rfl))
    all_goals first | rfl | (apply Keeps.fr; (case h => exact fr_); (case hv => exact plR.nm rfl))
  obtain ⟨hMV, ha, hfo, hin⟩ := chk_zero hck
  have bl : (bnd L).length ≤ 512 := by have := bnd_len hMV.2; have := h.mm; have := h.len; omega
  have hl : ldr nodes L a = (side (bnd L) a).headD 0 := ldr_ok hck
  rw [hl, hck]
  have c19 := boundR_yes (h.fr F1) hck

  (repeat' (first | (apply Ab.K.ev; exact ev_) | (apply Ab.K.aops; first | (apply Xg.s; constructor) | (apply Ab.S.guardU; (case hd => rfl); (case hb => (exact ev_; done))) | apply Ab.S.guardG) | (apply Ab.K.aop; first | (first | (apply Ab.O.boxA (l := [.slice A n c, .slice B m d]) N; (case hx => exact ev_); (case hid => exact hT.free (Nat.le_refl _))) | (apply Ab.O.callFE; (case ha => exact evs_); (case hc => exact c19))) | (apply Og.s; constructor)) | (apply Ab.K.gk; first | (apply Xg.s; constructor) | (apply Ab.gY; case hw => assumption) | (apply Ab.gNT; case hw => assumption) | (apply Ab.gNF; case hw => assumption) | ((first | apply Ab.gD | apply Ab.gDN); all_goals (intro _ _; (first | contradiction | (exfalso; omega) | skip)))) | (apply Ab.K.awp; first | (apply Xg.s; constructor)) | (apply Ab.K.at_; exact at_) | (apply Ab.K.acall; first | assumption | fail) | (apply Ab.Rg.mk; omega) | (apply Ab.Lt.mk; first | decide | (simp; done) | (simp; omega) | fail) | (apply Ab.Get.mk; first | rfl | rfl) | (apply Ab.Nm.mk; first | exact (show (([.slice A n c, .slice B m d] : List Value).drop 0).take 2 = [.slice A n c, .slice B m d] from rfl) | exact nrm_) | (apply Xg.s; constructor) | (apply Ab.asm; assumption) | rfl | infer_instance | decide))
  rintro v2 s2 ⟨w, rfl, hw⟩
  clear c19
  have F2 : Fr s2 s [] := fun i hi c hc => hw.fr i hi c (F1 i hi c hc)
  obtain ⟨M, hM, T2⟩ := hw.top (hT.new (b := .cells true 1 [.slice A n c, .slice B m d]))
  obtain ⟨C, cc, oe, rfl, hE⟩ := hw.ea rfl
  have hok : wOk (bnd L) a a = true := wOk_iff.2 ⟨hMV.good, hfo, ha, ha⟩
  have c24 := below16_self (o := M) hE bl hok (T2.none (Nat.le_refl _))
  have hh := side_head hMV.good ha
  have gh := ints_get hh
  have hpos : 0 < (side (bnd L) a).length := (List.getElem?_eq_some_iff.1 hh).1

  (repeat' (first | (apply Ab.K.ev; exact ev_) | (apply Ab.K.aops; first | (apply Xg.s; constructor) | (apply Ab.S.guardU; (case hd => rfl); (case hb => (exact ev_; done))) | apply Ab.S.guardG) | (apply Ab.K.aop; first | (apply Og.s; constructor)) | (apply Ab.K.gk; first | (apply Xg.s; constructor) | (apply Ab.gY; case hw => assumption) | (apply Ab.gNT; case hw => assumption) | (apply Ab.gNF; case hw => assumption) | ((first | apply Ab.gD | apply Ab.gDN); all_goals (intro _ _; (first | contradiction | (exfalso; omega) | skip)))) | (apply Ab.K.awp; first | (apply Xg.s; constructor)) | (apply Ab.K.at_; exact at_) | (apply Ab.K.acall; first | assumption | exact c24) | (apply Ab.Rg.mk; omega) | (apply Ab.Lt.mk; first | decide | (simp; done) | (simp; omega) | fail) | (apply Ab.Get.mk; first | rfl | first | rfl | exact gh) | (apply Ab.Nm.mk; first | exact (show (([.slice A n c, .slice B m d] : List Value).drop 0).take 2 = [.slice A n c, .slice B m d] from rfl) | exact nrm_) | (apply Xg.s; constructor) | (apply Ab.asm; assumption) | rfl | infer_instance | decide))
  all_goals ((first | apply RetQ.ret | apply RetQ.normal); (case he => exact evr_); (case hg => rfl))
  all_goals first | rfl | exact Keeps.fr (Fr.new (hT.free (by omega)) F2) (plR.nm rfl)
end Go.Proofs.Ytdbnpghckgmaoaa

/- routes: why nothing is told, the next hop and the leader, by the document. -/
namespace Go.Proofs.Ytdbnpghckgmaoaa
set_option linter.unusedVariables false
set_option linter.unusedSimpArgs false
set_option linter.unusedSectionVars false
open Go.RowKit Ab TP VP
attribute [local irreducible] AOps AOpsD AOp AWp put nargs AHeap.set At Free ACall ACallE thenQ blockQ roundQ RetQ RetE Src Gr side lkN chk hopE hopV ldr nxt VP.bnd inn mvB reachB lkB foB



set_option maxHeartbeats 4000000 in
theorem check11 {s : AHeap} {A B : Option Addr} {n c m d : Nat} {nodes : List Int} {L : List Kn} {a : Int} (h : VAt s A B n c m d nodes L) :
    ACall Try.prog 14 [.agg #[.slice A n c, .slice B m d], .int .i64 a] s (.int .i64 (chk nodes L a)) s := by
  obtain ⟨on, hN⟩ := h.n
  obtain ⟨ol, hL⟩ := h.l
  have hn := h.nn
  have hm : m ≤ 100000 := by have := h.mm; omega
  refine ACall.make Try.func14 rfl (by kernel_rfl) (by decide) rfl (fun N hN0 => ?_)
  have hT : Top N s := hN0
  have F1 : Fr (s.set N (.cells true 1 [.slice A n c, .slice B m d])) s [] := Fr.new (hT.free (Nat.le_refl _)) (Fr.refl _ _)
  have c26 := may09 (hN.fr F1) (hL.fr F1) hn hm
  have c22 : ∀ s : AHeap, ACall Try.prog 22 [.int .i64 a] s (.bool (decide (TP.Node a))) s := fun s => node15

  cases hmv : mvB nodes L
  · have hc1 : chk nodes L a = 1 := by unfold chk; rw [if_neg (by rw [hmv]; simp)]
    rw [hc1]
    rw [hmv] at c26
    (repeat' (first | (apply Ab.K.ev; exact ev_) | (apply Ab.K.aops; first | (apply Xg.s; constructor) | (apply Ab.S.guardU; (case hd => rfl); (case hb => (exact ev_; done))) | apply Ab.S.guardG) | (apply Ab.K.aop; first | (apply Ab.O.boxA (l := [.slice A n c, .slice B m d]) N; (case hx => exact ev_); (case hid => exact hT.free (Nat.le_refl _))) | (apply Og.s; constructor)) | (apply Ab.K.gk; first | (apply Xg.s; constructor) | (apply Ab.gY; case hw => assumption) | (apply Ab.gNT; case hw => assumption) | (apply Ab.gNF; case hw => assumption) | ((first | apply Ab.gD | apply Ab.gDN); all_goals (intro _ _; (first | contradiction | (exfalso; omega) | skip)))) | (apply Ab.K.awp; first | (apply Xg.s; constructor)) | (apply Ab.K.at_; exact at_) | (apply Ab.K.acall; first | assumption | first | exact c26 | exact c22 _) | (apply Ab.Rg.mk; omega) | (apply Ab.Lt.mk; first | decide | (simp; done) | (simp; omega) | fail) | (apply Ab.Get.mk; first | rfl | rfl) | (apply Ab.Nm.mk; first | exact (show (([.slice A n c, .slice B m d] : List Value).drop 0).take 2 = [.slice A n c, .slice B m d] from rfl) | exact nrm_) | (apply Xg.s; constructor) | (apply Ab.asm; assumption) | rfl | infer_instance | decide))
    all_goals ((first | apply RetQ.ret | apply RetQ.normal); (case he => exact evr_); (case hg => rfl))
    all_goals first | rfl | (apply Keeps.fr; (case h => exact fr_); (case hv => exact plR.nm rfl))
  have hMV := mvB_iff.1 hmv
  rw [hmv] at c26
  by_cases ha : TP.Node a
  case neg =>
    have hc1 : chk nodes L a = 1 := by unfold chk; rw [if_neg (fun h => ha h.2)]
    rw [hc1]
    rw [decide_eq_false ha] at c22
    (repeat' (first | (apply Ab.K.ev; exact ev_) | (apply Ab.K.aops; first | (apply Xg.s; constructor) | (apply Ab.S.guardU; (case hd => rfl); (case hb => (exact ev_; done))) | apply Ab.S.guardG) | (apply Ab.K.aop; first | (apply Ab.O.boxA (l := [.slice A n c, .slice B m d]) N; (case hx => exact ev_); (case hid => exact hT.free (Nat.le_refl _))) | (apply Og.s; constructor)) | (apply Ab.K.gk; first | (apply Xg.s; constructor) | (apply Ab.gY; case hw => assumption) | (apply Ab.gNT; case hw => assumption) | (apply Ab.gNF; case hw => assumption) | ((first | apply Ab.gD | apply Ab.gDN); all_goals (intro _ _; (first | contradiction | (exfalso; omega) | skip)))) | (apply Ab.K.awp; first | (apply Xg.s; constructor)) | (apply Ab.K.at_; exact at_) | (apply Ab.K.acall; first | assumption | first | exact c26 | exact c22 _) | (apply Ab.Rg.mk; omega) | (apply Ab.Lt.mk; first | decide | (simp; done) | (simp; omega) | fail) | (apply Ab.Get.mk; first | rfl | rfl) | (apply Ab.Nm.mk; first | exact (show (([.slice A n c, .slice B m d] : List Value).drop 0).take 2 = [.slice A n c, .slice B m d] from rfl) | exact nrm_) | (apply Xg.s; constructor) | (apply Ab.asm; assumption) | rfl | infer_instance | decide))
    all_goals ((first | apply RetQ.ret | apply RetQ.normal); (case he => exact evr_); (case hg => rfl))
    all_goals first | rfl | (apply Keeps.fr; (case h => exact fr_); (case hv => exact plR.nm rfl))
  rw [decide_eq_true ha] at c22
  have bl : (bnd L).length ≤ 512 := by have := bnd_len hMV.2; have := h.mm; have := h.len; omega
  have c15 := bound09 (A := A) (n := n) (c := c) (o := N + 1) (hL.fr F1) hm hMV.2 (hT.new.none (Nat.le_refl _))
  obtain ⟨s2, hs2⟩ : ∃ s2, s2 = (s.set N (.cells true 1 [.slice A n c, .slice B m d])).set (N + 1) (.cells true 3 (ecs (bnd L))) := ⟨_, rfl⟩
  have F2 : Fr s2 s [] := by rw [hs2]; exact Fr.new (hT.free (by omega)) F1
  have a2 : At s2 N (.cells true 1 [.slice A n c, .slice B m d]) := by rw [hs2]; exact at_
  have c27 := forest22 (EA.own (s := s2) (q := N + 1) (l := bnd L) (by rw [hs2]; exact At.hit)) (Good.node hMV.good) (by omega)
  rw [hs2] at c27
  cases hfo : foB (bnd L)
  · have hc1 : chk nodes L a = 11 := by unfold chk; rw [if_pos ⟨hmv, ha⟩, if_neg (by rw [hfo]; simp)]
    rw [hc1]
    rw [hfo] at c27
    (repeat' (first | (apply Ab.K.ev; exact ev_) | (apply Ab.K.aops; first | (apply Xg.s; constructor) | (apply Ab.S.guardU; (case hd => rfl); (case hb => (exact ev_; done))) | apply Ab.S.guardG) | (apply Ab.K.aop; first | (apply Ab.O.boxA (l := [.slice A n c, .slice B m d]) N; (case hx => exact ev_); (case hid => exact hT.free (Nat.le_refl _))) | (apply Og.s; constructor)) | (apply Ab.K.gk; first | (apply Xg.s; constructor) | (apply Ab.gY; case hw => assumption) | (apply Ab.gNT; case hw => assumption) | (apply Ab.gNF; case hw => assumption) | ((first | apply Ab.gD | apply Ab.gDN); all_goals (intro _ _; (first | contradiction | (exfalso; omega) | skip)))) | (apply Ab.K.awp; first | (apply Xg.s; constructor)) | (apply Ab.K.at_; exact at_) | (apply Ab.K.acall; first | assumption | first | exact c26 | exact c22 _ | exact c15 | exact c27) | (apply Ab.Rg.mk; omega) | (apply Ab.Lt.mk; first | decide | (simp; done) | (simp; omega) | fail) | (apply Ab.Get.mk; first | rfl | rfl) | (apply Ab.Nm.mk; first | exact (show (([.slice A n c, .slice B m d] : List Value).drop 0).take 2 = [.slice A n c, .slice B m d] from rfl) | exact nrm_) | (apply Xg.s; constructor) | (apply Ab.asm; assumption) | rfl | infer_instance | decide))
    all_goals ((first | apply RetQ.ret | apply RetQ.normal); (case he => exact evr_); (case hg => rfl))
    all_goals first | rfl | (rw [← hs2]; exact Keeps.fr F2 (plR.nm rfl))
  rw [hfo] at c27
  have hck : chk nodes L a = if a ∈ nodes then 0 else 4 := by unfold chk; rw [if_pos ⟨hmv, ha⟩, if_pos hfo]
  rw [hck]
  (repeat' (first | (apply Ab.K.ev; exact ev_) | (apply Ab.K.aops; first | (apply Xg.s; constructor) | (apply Ab.S.guardU; (case hd => rfl); (case hb => (exact ev_; done))) | apply Ab.S.guardG) | (apply Ab.K.aop; first | (apply Ab.O.boxA (l := [.slice A n c, .slice B m d]) N; (case hx => exact ev_); (case hid => exact hT.free (Nat.le_refl _))) | (apply Og.s; constructor)) | (apply Ab.K.gk; first | (apply Xg.s; constructor) | (apply Ab.gY; case hw => assumption) | (apply Ab.gNT; case hw => assumption) | (apply Ab.gNF; case hw => assumption) | ((first | apply Ab.gD | apply Ab.gDN); all_goals (intro _ _; (first | contradiction | (exfalso; omega) | skip)))) | (apply Ab.K.awp; first | (apply Xg.s; constructor)) | (apply Ab.K.at_; exact at_) | (apply Ab.K.acall; first | assumption | first | exact c26 | exact c22 _ | exact c15 | exact c27) | (apply Ab.Rg.mk; omega) | (apply Ab.Lt.mk; first | decide | (simp; done) | (simp; omega) | fail) | (apply Ab.Get.mk; first | rfl | rfl) | (apply Ab.Nm.mk; first | exact (show (([.slice A n c, .slice B m d] : List Value).drop 0).take 2 = [.slice A n c, .slice B m d] from rfl) | exact nrm_) | (apply Xg.s; constructor) | (apply Ab.asm; assumption) | rfl | infer_instance | decide))
  rw [← hs2]
  clear c26 c22 c15 c27

  refine AWp.loop (fun kk tm s1 => ∃ i : Nat, Ev tm (.tmp 1) (.int .i64 a) ∧ Ev tm (.tmp 2) (.pointer (some ⟨N, 0, none⟩)) ∧ Ev tm (.tmp 5) (.int .i64 i) ∧ At s1 N (.cells true 1 [.slice A n c, .slice B m d]) ∧ Fr s1 s [] ∧ a ∉ nodes.take i ∧ i ≤ n ∧ kk = n - i) n ?_ ?_
  · exact ⟨0, by exact ev_, by exact ev_, by exact ev_, a2, F2, by simp, by omega, rfl⟩
  clear F2 a2 hs2
  rintro kk tm s1 ⟨i, e1, e2, e5, a1, F, hx, hi, hkk⟩
  have hnl := h.len.1
  by_cases hin : i < n
  · obtain ⟨y, hy⟩ : ∃ y, nodes[i]? = some y := ⟨_, List.getElem?_eq_getElem (by omega)⟩
    have htk : nodes.take (i + 1) = nodes.take i ++ [y] := by rw [List.take_add_one, hy]; rfl
    obtain ⟨q, rw1, cs, rfl, _, _, hq, g0⟩ := (hN.fr F).elt hy
    by_cases hyx : y = a
    · have hm : a ∈ nodes := hyx ▸ List.mem_of_getElem? hy
      rw [if_pos hm]
      (repeat' (first | (apply Ab.K.ev; exact ev_) | (apply Ab.K.aops; first | (apply Xg.s; constructor) | (apply Ab.S.guardU; (case hd => rfl); (case hb => (exact ev_; done))) | apply Ab.S.guardG) | (apply Ab.K.aop; first | (apply Og.s; constructor)) | (apply Ab.K.gk; first | (apply Xg.s; constructor) | (apply Ab.gY; case hw => assumption) | (apply Ab.gNT; case hw => assumption) | (apply Ab.gNF; case hw => assumption) | ((first | apply Ab.gD | apply Ab.gDN); all_goals (intro _ _; (first | contradiction | (exfalso; omega) | skip)))) | (apply Ab.K.awp; first | (apply Xg.s; constructor)) | (apply Ab.K.at_; exact at_) | (apply Ab.K.acall; first | assumption | fail) | (apply Ab.Rg.mk; omega) | (apply Ab.Lt.mk; first | decide | (simp; done) | (simp; omega) | fail) | (apply Ab.Get.mk; first | rfl | first | rfl | (rw [Int.toNat_natCast]; exact g0)) | (apply Ab.Nm.mk; first | exact (show (([.slice A n c, .slice B m d] : List Value).drop 0).take 2 = [.slice A n c, .slice B m d] from rfl) | exact nrm_) | (apply Xg.s; constructor) | (apply Ab.asm; assumption) | rfl | infer_instance | decide))
      all_goals ((first | apply RetQ.ret | apply RetQ.normal); (case he => exact evr_); (case hg => rfl))
      all_goals first | rfl | exact Keeps.fr F (plR.nm rfl)
    · (repeat' (first | (apply Ab.K.ev; exact ev_) | (apply Ab.K.aops; first | (apply Xg.s; constructor) | (apply Ab.S.guardU; (case hd => rfl); (case hb => (exact ev_; done))) | apply Ab.S.guardG) | (apply Ab.K.aop; first | (apply Og.s; constructor)) | (apply Ab.K.gk; first | (apply Xg.s; constructor) | (apply Ab.gY; case hw => assumption) | (apply Ab.gNT; case hw => assumption) | (apply Ab.gNF; case hw => assumption) | ((first | apply Ab.gD | apply Ab.gDN); all_goals (intro _ _; (first | contradiction | (exfalso; omega) | skip)))) | (apply Ab.K.awp; first | (apply Xg.s; constructor)) | (apply Ab.K.at_; exact at_) | (apply Ab.K.acall; first | assumption | fail) | (apply Ab.Rg.mk; omega) | (apply Ab.Lt.mk; first | decide | (simp; done) | (simp; omega) | fail) | (apply Ab.Get.mk; first | rfl | first | rfl | (rw [Int.toNat_natCast]; exact g0)) | (apply Ab.Nm.mk; first | exact (show (([.slice A n c, .slice B m d] : List Value).drop 0).take 2 = [.slice A n c, .slice B m d] from rfl) | exact nrm_) | (apply Xg.s; constructor) | (apply Ab.asm; assumption) | rfl | infer_instance | decide))
      exact X.roundN (n - (i + 1)) (by omega) ⟨i + 1, by exact ev_, by exact ev_, by exact ev_, a1, F, by rw [htk, List.mem_append, List.mem_singleton]; exact fun h => h.elim hx fun e => hyx e.symm, by omega, rfl⟩
  · obtain rfl : i = n := by omega
    rw [hnl, List.take_length] at hx
    rw [if_neg hx]
    (repeat' (first | (apply Ab.K.ev; exact ev_) | (apply Ab.K.aops; first | (apply Xg.s; constructor) | (apply Ab.S.guardU; (case hd => rfl); (case hb => (exact ev_; done))) | apply Ab.S.guardG) | (apply Ab.K.aop; first | (apply Og.s; constructor)) | (apply Ab.K.gk; first | (apply Xg.s; constructor) | (apply Ab.gY; case hw => assumption) | (apply Ab.gNT; case hw => assumption) | (apply Ab.gNF; case hw => assumption) | ((first | apply Ab.gD | apply Ab.gDN); all_goals (intro _ _; (first | contradiction | (exfalso; omega) | skip)))) | (apply Ab.K.awp; first | (apply Xg.s; constructor)) | (apply Ab.K.at_; exact at_) | (apply Ab.K.acall; first | assumption | fail) | (apply Ab.Rg.mk; omega) | (apply Ab.Lt.mk; first | decide | (simp; done) | (simp; omega) | fail) | (apply Ab.Get.mk; first | rfl | first | rfl | (rw [Int.toNat_natCast]; exact g0)) | (apply Ab.Nm.mk; first | exact (show (([.slice A n c, .slice B m d] : List Value).drop 0).take 2 = [.slice A n c, .slice B m d] from rfl) | exact nrm_) | (apply Xg.s; constructor) | (apply Ab.asm; assumption) | rfl | infer_instance | decide))
    all_goals ((first | apply RetQ.ret | apply RetQ.normal); (case he => exact evr_); (case hg => rfl))
    all_goals first | rfl | exact Keeps.fr F (plR.nm rfl)
set_option maxHeartbeats 4000000 in
theorem hop11 {s : AHeap} {A B : Option Addr} {n c m d : Nat} {nodes : List Int} {L : List Kn} {a b : Int} (h : VAt s A B n c m d nodes L) :
    ACall Try.prog 11 [.agg #[.slice A n c, .slice B m d], .int .i64 a, .int .i64 b] s (.tuple #[.int .i64 (hopV nodes L a b), .int .i64 (hopE nodes L a b)]) s := by
  obtain ⟨ol, hL⟩ := h.l
  have hm : m ≤ 100000 := by have := h.mm; omega
  refine ACall.make Try.func11 rfl (by kernel_rfl) (by decide) rfl (fun N hN0 => ?_)
  have hT : Top N s := hN0
  have F1 : Fr (s.set N (.cells true 1 [.slice A n c, .slice B m d])) s [] := Fr.new (hT.free (Nat.le_refl _)) (Fr.refl _ _)
  have c22 : ∀ s : AHeap, ACall Try.prog 22 [.int .i64 b] s (.bool (decide (TP.Node b))) s := fun s => node15
  have c14 := check11 (a := a) (h.fr F1)

  by_cases hb : TP.Node b
  case neg =>
    have hE : hopE nodes L a b = 1 := hopE_node hb
    have hV : hopV nodes L a b = 0 := hop_bad (by rw [hE]; decide)
    rw [hE, hV]
    rw [decide_eq_false hb] at c22
    (repeat' (first | (apply Ab.K.ev; exact ev_) | (apply Ab.K.aops; first | (apply Xg.s; constructor) | (apply Ab.S.guardU; (case hd => rfl); (case hb => (exact ev_; done))) | apply Ab.S.guardG) | (apply Ab.K.aop; first | (apply Ab.O.boxA (l := [.slice A n c, .slice B m d]) N; (case hx => exact ev_); (case hid => exact hT.free (Nat.le_refl _))) | (apply Og.s; constructor)) | (apply Ab.K.gk; first | (apply Xg.s; constructor) | (apply Ab.gY; case hw => assumption) | (apply Ab.gNT; case hw => assumption) | (apply Ab.gNF; case hw => assumption) | ((first | apply Ab.gD | apply Ab.gDN); all_goals (intro _ _; (first | contradiction | (exfalso; omega) | skip)))) | (apply Ab.K.awp; first | (apply Xg.s; constructor)) | (apply Ab.K.at_; exact at_) | (apply Ab.K.acall; first | assumption | first | exact c22 _ | exact c14) | (apply Ab.Rg.mk; omega) | (apply Ab.Lt.mk; first | decide | (simp; done) | (simp; omega) | fail) | (apply Ab.Get.mk; first | rfl | rfl) | (apply Ab.Nm.mk; first | exact (show (([.slice A n c, .slice B m d] : List Value).drop 0).take 2 = [.slice A n c, .slice B m d] from rfl) | exact nrm_) | (apply Xg.s; constructor) | (apply Ab.asm; assumption) | rfl | infer_instance | decide))
    all_goals ((first | apply RetQ.ret | apply RetQ.normal); (case he => exact evr_); (case hg => rfl))
    all_goals first | rfl | (apply Keeps.fr; (case h => exact fr_); (case hv => exact plR.nm rfl))
  rw [decide_eq_true hb] at c22
  by_cases hck : chk nodes L a = 0
  case neg =>
    have hE : hopE nodes L a b = chk nodes L a := by unfold hopE; rw [if_pos hb, if_neg hck]
    have hV : hopV nodes L a b = 0 := hop_bad (by rw [hE]; exact hck)
    rw [hE, hV]
    (repeat' (first | (apply Ab.K.ev; exact ev_) | (apply Ab.K.aops; first | (apply Xg.s; constructor) | (apply Ab.S.guardU; (case hd => rfl); (case hb => (exact ev_; done))) | apply Ab.S.guardG) | (apply Ab.K.aop; first | (apply Ab.O.boxA (l := [.slice A n c, .slice B m d]) N; (case hx => exact ev_); (case hid => exact hT.free (Nat.le_refl _))) | (apply Og.s; constructor)) | (apply Ab.K.gk; first | (apply Xg.s; constructor) | (apply Ab.gY; case hw => assumption) | (apply Ab.gNT; case hw => assumption) | (apply Ab.gNF; case hw => assumption) | ((first | apply Ab.gD | apply Ab.gDN); all_goals (intro _ _; (first | contradiction | (exfalso; omega) | skip)))) | (apply Ab.K.awp; first | (apply Xg.s; constructor)) | (apply Ab.K.at_; exact at_) | (apply Ab.K.acall; first | assumption | first | exact c22 _ | exact c14) | (apply Ab.Rg.mk; omega) | (apply Ab.Lt.mk; first | decide | (simp; done) | (simp; omega) | fail) | (apply Ab.Get.mk; first | rfl | rfl) | (apply Ab.Nm.mk; first | exact (show (([.slice A n c, .slice B m d] : List Value).drop 0).take 2 = [.slice A n c, .slice B m d] from rfl) | exact nrm_) | (apply Xg.s; constructor) | (apply Ab.asm; assumption) | rfl | infer_instance | decide))
    all_goals ((first | apply RetQ.ret | apply RetQ.normal); (case he => exact evr_); (case hg => rfl))
    all_goals first | rfl | (apply Keeps.fr; (case h => exact fr_); (case hv => exact plR.nm rfl))
  obtain ⟨hMV, ha, hfo, hin⟩ := chk_zero hck
  rw [hck] at c14
  have bl : (bnd L).length ≤ 512 := by have := bnd_len hMV.2; have := h.mm; have := h.len; omega
  have c15 := bound09 (A := A) (n := n) (c := c) (o := N + 1) (hL.fr F1) hm hMV.2 (hT.new.none (Nat.le_refl _))
  obtain ⟨s2, hs2⟩ : ∃ s2, s2 = (s.set N (.cells true 1 [.slice A n c, .slice B m d])).set (N + 1) (.cells true 3 (ecs (bnd L))) := ⟨_, rfl⟩
  have F2 : Fr s2 s [] := by rw [hs2]; exact Fr.new (hT.free (by omega)) F1
  have T2 : Top (N + 2) s2 := by rw [hs2]; exact hT.new.new
  have hE2 := EA.own (s := s2) (q := N + 1) (l := bnd L) (by rw [hs2]; exact At.hit)
  have c16 := linked9 (a := a) (b := b) hE2 (Good.node hMV.good) (by omega)
  rw [hs2] at c16
  cases hlk : lkB (bnd L) a b
  · have hE : hopE nodes L a b = 9 := by unfold hopE; rw [if_pos hb, if_pos hck, if_neg (by rw [hlk]; simp)]
    have hV : hopV nodes L a b = 0 := hop_bad (by rw [hE]; decide)
    rw [hE, hV]
    rw [hlk] at c16
    (repeat' (first | (apply Ab.K.ev; exact ev_) | (apply Ab.K.aops; first | (apply Xg.s; constructor) | (apply Ab.S.guardU; (case hd => rfl); (case hb => (exact ev_; done))) | apply Ab.S.guardG) | (apply Ab.K.aop; first | (apply Ab.O.boxA (l := [.slice A n c, .slice B m d]) N; (case hx => exact ev_); (case hid => exact hT.free (Nat.le_refl _))) | (apply Og.s; constructor)) | (apply Ab.K.gk; first | (apply Xg.s; constructor) | (apply Ab.gY; case hw => assumption) | (apply Ab.gNT; case hw => assumption) | (apply Ab.gNF; case hw => assumption) | ((first | apply Ab.gD | apply Ab.gDN); all_goals (intro _ _; (first | contradiction | (exfalso; omega) | skip)))) | (apply Ab.K.awp; first | (apply Xg.s; constructor)) | (apply Ab.K.at_; exact at_) | (apply Ab.K.acall; first | assumption | first | exact c22 _ | exact c14 | exact c15 | exact c16) | (apply Ab.Rg.mk; omega) | (apply Ab.Lt.mk; first | decide | (simp; done) | (simp; omega) | fail) | (apply Ab.Get.mk; first | rfl | rfl) | (apply Ab.Nm.mk; first | exact (show (([.slice A n c, .slice B m d] : List Value).drop 0).take 2 = [.slice A n c, .slice B m d] from rfl) | exact nrm_) | (apply Xg.s; constructor) | (apply Ab.asm; assumption) | rfl | infer_instance | decide))
    all_goals ((first | apply RetQ.ret | apply RetQ.normal); (case he => exact evr_); (case hg => rfl))
    all_goals first | rfl | (rw [← hs2]; exact Keeps.fr F2 (plR.nm rfl))
  rw [hlk] at c16
  obtain ⟨p, hp⟩ := Way.ex (lkB_iff.1 hlk).2.2
  have hE : hopE nodes L a b = 0 := hop_ok.2 ⟨hb, hck, hlk⟩
  have hV : hopV nodes L a b = nxt (bnd L) a b := hopV_ok hE
  rw [hE, hV]
  have hnx := nxt_eq (hMV.cut hfo) hp
  by_cases hab : a = b
  · have hpa : p = [a] := by subst hab; exact (Way.one a).uniq (hMV.cut hfo) hp
    rw [hpa] at hnx
    have hnb : nxt (bnd L) a b = b := (Option.some.inj hnx).symm
    rw [hnb]
    (repeat' (first | (apply Ab.K.ev; exact ev_) | (apply Ab.K.aops; first | (apply Xg.s; constructor) | (apply Ab.S.guardU; (case hd => rfl); (case hb => (exact ev_; done))) | apply Ab.S.guardG) | (apply Ab.K.aop; first | (apply Ab.O.boxA (l := [.slice A n c, .slice B m d]) N; (case hx => exact ev_); (case hid => exact hT.free (Nat.le_refl _))) | (apply Og.s; constructor)) | (apply Ab.K.gk; first | (apply Xg.s; constructor) | (apply Ab.gY; case hw => assumption) | (apply Ab.gNT; case hw => assumption) | (apply Ab.gNF; case hw => assumption) | ((first | apply Ab.gD | apply Ab.gDN); all_goals (intro _ _; (first | contradiction | (exfalso; omega) | skip)))) | (apply Ab.K.awp; first | (apply Xg.s; constructor)) | (apply Ab.K.at_; exact at_) | (apply Ab.K.acall; first | assumption | first | exact c22 _ | exact c14 | exact c15 | exact c16) | (apply Ab.Rg.mk; omega) | (apply Ab.Lt.mk; first | decide | (simp; done) | (simp; omega) | fail) | (apply Ab.Get.mk; first | rfl | rfl) | (apply Ab.Nm.mk; first | exact (show (([.slice A n c, .slice B m d] : List Value).drop 0).take 2 = [.slice A n c, .slice B m d] from rfl) | exact nrm_) | (apply Xg.s; constructor) | (apply Ab.asm; assumption) | rfl | infer_instance | decide))
    all_goals ((first | apply RetQ.ret | apply RetQ.normal); (case he => exact evr_); (case hg => rfl))
    all_goals first | rfl | (rw [← hs2]; exact Keeps.fr F2 (plR.nm rfl))
  · have hp2 : 1 < p.length := by
      cases hp with
      | one => exact absurd rfl hab
      | cons _ _ r => obtain ⟨t, ht⟩ := r.head; rw [ht]; simp
    rw [List.getElem?_append_left hp2] at hnx
    have gn := ints_get hnx
    have c23 := way23 (o := N + 2) hE2 hMV.good (hMV.cut hfo) hp ha hb bl (T2.none (Nat.le_refl _))
    rw [hs2] at c23

    (repeat' (first | (apply Ab.K.ev; exact ev_) | (apply Ab.K.aops; first | (apply Xg.s; constructor) | (apply Ab.S.guardU; (case hd => rfl); (case hb => (exact ev_; done))) | apply Ab.S.guardG) | (apply Ab.K.aop; first | (apply Ab.O.boxA (l := [.slice A n c, .slice B m d]) N; (case hx => exact ev_); (case hid => exact hT.free (Nat.le_refl _))) | (apply Og.s; constructor)) | (apply Ab.K.gk; first | (apply Xg.s; constructor) | (apply Ab.gY; case hw => assumption) | (apply Ab.gNT; case hw => assumption) | (apply Ab.gNF; case hw => assumption) | ((first | apply Ab.gD | apply Ab.gDN); all_goals (intro _ _; (first | contradiction | (exfalso; omega) | skip)))) | (apply Ab.K.awp; first | (apply Xg.s; constructor)) | (apply Ab.K.at_; exact at_) | (apply Ab.K.acall; first | assumption | first | exact c22 _ | exact c14 | exact c15 | exact c16 | exact c23) | (apply Ab.Rg.mk; omega) | (apply Ab.Lt.mk; first | decide | (simp; done) | (simp; omega) | fail) | (apply Ab.Get.mk; first | rfl | first | rfl | exact gn) | (apply Ab.Nm.mk; first | exact (show (([.slice A n c, .slice B m d] : List Value).drop 0).take 2 = [.slice A n c, .slice B m d] from rfl) | exact nrm_) | (apply Xg.s; constructor) | (apply Ab.asm; assumption) | rfl | infer_instance | decide))
    all_goals ((first | apply RetQ.ret | apply RetQ.normal); (case he => exact evr_); (case hg => rfl))
    all_goals first | rfl | (rw [← hs2]; exact Keeps.fr (Fr.new (hT.free (by omega)) F2) (plR.nm rfl))

set_option maxHeartbeats 4000000 in
theorem leader11 {s : AHeap} {A B : Option Addr} {n c m d : Nat} {nodes : List Int} {L : List Kn} {a : Int} (h : VAt s A B n c m d nodes L) :
    ACall Try.prog 13 [.agg #[.slice A n c, .slice B m d], .int .i64 a] s (.tuple #[.int .i64 (ldr nodes L a), .int .i64 (chk nodes L a)]) s := by
  obtain ⟨ol, hL⟩ := h.l
  have hm : m ≤ 100000 := by have := h.mm; omega
  refine ACall.make Try.func13 rfl (by kernel_rfl) (by decide) rfl (fun N hN0 => ?_)
  have hT : Top N s := hN0
  have F1 : Fr (s.set N (.cells true 1 [.slice A n c, .slice B m d])) s [] := Fr.new (hT.free (Nat.le_refl _)) (Fr.refl _ _)
  have c14 := check11 (a := a) (h.fr F1)

  by_cases hck : chk nodes L a = 0
  case neg =>
    have hl : ldr nodes L a = 0 := ldr_no hck
    rw [hl]
    (repeat' (first | (apply Ab.K.ev; exact ev_) | (apply Ab.K.aops; first | (apply Xg.s; constructor) | (apply Ab.S.guardU; (case hd => rfl); (case hb => (exact ev_; done))) | apply Ab.S.guardG) | (apply Ab.K.aop; first | (apply Ab.O.boxA (l := [.slice A n c, .slice B m d]) N; (case hx => exact ev_); (case hid => exact hT.free (Nat.le_refl _))) | (apply Og.s; constructor)) | (apply Ab.K.gk; first | (apply Xg.s; constructor) | (apply Ab.gY; case hw => assumption) | (apply Ab.gNT; case hw => assumption) | (apply Ab.gNF; case hw => assumption) | ((first | apply Ab.gD | apply Ab.gDN); all_goals (intro _ _; (first | contradiction | (exfalso; omega) | skip)))) | (apply Ab.K.awp; first | (apply Xg.s; constructor)) | (apply Ab.K.at_; exact at_) | (apply Ab.K.acall; first | assumption | exact c14) | (apply Ab.Rg.mk; omega) | (apply Ab.Lt.mk; first | decide | (simp; done) | (simp; omega) | fail) | (apply Ab.Get.mk; first | rfl | rfl) | (apply Ab.Nm.mk; first | exact (show (([.slice A n c, .slice B m d] : List Value).drop 0).take 2 = [.slice A n c, .slice B m d] from rfl) | exact nrm_) | (apply Xg.s; constructor) | (apply Ab.asm; assumption) | rfl | infer_instance | decide))
    all_goals ((first | apply RetQ.ret | apply RetQ.normal); (case he => exact evr_); (case hg => rfl))
    all_goals first | rfl | (apply Keeps.fr; (case h => exact fr_); (case hv => exact plR.nm rfl))
  obtain ⟨hMV, ha, hfo, hin⟩ := chk_zero hck
  have hl : ldr nodes L a = (side (bnd L) a).headD 0 := ldr_ok hck
  rw [hck] at c14
  rw [hl, hck]
  have bl : (bnd L).length ≤ 512 := by have := bnd_len hMV.2; have := h.mm; have := h.len; omega
  have c15 := bound09 (A := A) (n := n) (c := c) (o := N + 1) (hL.fr F1) hm hMV.2 (hT.new.none (Nat.le_refl _))
  obtain ⟨s2, hs2⟩ : ∃ s2, s2 = (s.set N (.cells true 1 [.slice A n c, .slice B m d])).set (N + 1) (.cells true 3 (ecs (bnd L))) := ⟨_, rfl⟩
  have F2 : Fr s2 s [] := by rw [hs2]; exact Fr.new (hT.free (by omega)) F1
  have T2 : Top (N + 2) s2 := by rw [hs2]; exact hT.new.new
  have hE2 := EA.own (s := s2) (q := N + 1) (l := bnd L) (by rw [hs2]; exact At.hit)
  have c25 := linked14 (a := a) (o := N + 2) hE2 (Good.node hMV.good) bl (T2.none (Nat.le_refl _))
  rw [hs2] at c25
  have hh := side_head hMV.good ha
  have gh := ints_get hh
  have hpos : 0 < (side (bnd L) a).length := (List.getElem?_eq_some_iff.1 hh).1

  (repeat' (first | (apply Ab.K.ev; exact ev_) | (apply Ab.K.aops; first | (apply Xg.s; constructor) | (apply Ab.S.guardU; (case hd => rfl); (case hb => (exact ev_; done))) | apply Ab.S.guardG) | (apply Ab.K.aop; first | (apply Ab.O.boxA (l := [.slice A n c, .slice B m d]) N; (case hx => exact ev_); (case hid => exact hT.free (Nat.le_refl _))) | (apply Og.s; constructor)) | (apply Ab.K.gk; first | (apply Xg.s; constructor) | (apply Ab.gY; case hw => assumption) | (apply Ab.gNT; case hw => assumption) | (apply Ab.gNF; case hw => assumption) | ((first | apply Ab.gD | apply Ab.gDN); all_goals (intro _ _; (first | contradiction | (exfalso; omega) | skip)))) | (apply Ab.K.awp; first | (apply Xg.s; constructor)) | (apply Ab.K.at_; exact at_) | (apply Ab.K.acall; first | assumption | first | exact c14 | exact c15 | exact c25) | (apply Ab.Rg.mk; omega) | (apply Ab.Lt.mk; first | decide | (simp; done) | (simp; omega) | fail) | (apply Ab.Get.mk; first | rfl | first | rfl | exact gh) | (apply Ab.Nm.mk; first | exact (show (([.slice A n c, .slice B m d] : List Value).drop 0).take 2 = [.slice A n c, .slice B m d] from rfl) | exact nrm_) | (apply Xg.s; constructor) | (apply Ab.asm; assumption) | rfl | infer_instance | decide))
  all_goals ((first | apply RetQ.ret | apply RetQ.normal); (case he => exact evr_); (case hg => rfl))
  all_goals first | rfl | (rw [← hs2]; exact Keeps.fr (Fr.new (hT.free (by omega)) F2) (plR.nm rfl))
end Go.Proofs.Ytdbnpghckgmaoaa

/- routes: the next nodes to all others. -/
namespace Go.Proofs.Ytdbnpghckgmaoaa
set_option linter.unusedVariables false
set_option linter.unusedSimpArgs false
set_option linter.unusedSectionVars false
open Go.RowKit Ab TP VP
instance : HasTD Try.prog 40 ⟨.array 2 3, 2, 16, .agg #[.int .i64 0, .int .i64 0]⟩ := ⟨by kernel_rfl⟩
instance : HasTD Try.prog 37 ⟨.slice 40, 1, 24, .slice none 0 0⟩ := ⟨by kernel_rfl⟩

def pc (p : Int × Int) : List Value := [.int .i64 p.1, .int .i64 p.2]
def pcs (l : List (Int × Int)) : List Value := l.flatMap pc
theorem pcs_length (l : List (Int × Int)) : (pcs l).length = l.length * 2 := by
  unfold pcs
  induction l with
  | nil => rfl
  | cons e l ih => rw [List.flatMap_cons, List.length_append, ih, List.length_cons]; show 2 + _ = _; omega
theorem pcs_append (a b : List (Int × Int)) : pcs (a ++ b) = pcs a ++ pcs b := by simp [pcs]
theorem pcs_pl (l : List (Int × Int)) : (pcs l).all pl1 = true := by simp [pcs, pc, pl1, plA]
theorem pcs_get {l : List (Int × Int)} {i : Nat} {e : Int × Int} (h : l[i]? = some e) : ((pcs l).drop (i * 2)).take 2 = pc e := by
  induction l generalizing i with
  | nil => simp at h
  | cons f l ih =>
    cases i with
    | zero => simp at h; subst h; simp [pcs, pc]
    | succ i =>
      rw [List.getElem?_cons_succ] at h
      have e1 : (i + 1) * 2 = 2 + i * 2 := by omega
      have e2 : pcs (f :: l) = pc f ++ pcs l := by simp [pcs]
      rw [e1, e2, ← List.drop_drop, show (pc f ++ pcs l).drop 2 = pcs l from rfl]
      exact ih h
theorem pcs_cell {l : List (Int × Int)} {i : Nat} {e : Int × Int} (h : l[i]? = some e) (j : Nat) (hj : j < 2) : (pcs l)[i * 2 + j]? = (pc e)[j]? := by
  rw [← pcs_get h, List.getElem?_take, if_pos hj, List.getElem?_drop]
/-- The next nodes to those up to one. -/
noncomputable def tblN (nodes : List Int) (L : List Kn) (a : Int) : Nat → List (Int × Int)
  | 0 => []
  | k + 1 => tblN nodes L a k ++ if hopE nodes L a ((k + 1 : Nat) : Int) = 0 ∧ ((k + 1 : Nat) : Int) ≠ a then [(((k + 1 : Nat) : Int), hopV nodes L a ((k + 1 : Nat) : Int))] else []
theorem tblN_zero {nodes : List Int} {L : List Kn} {a : Int} : tblN nodes L a 0 = [] := rfl
theorem tblN_yes {nodes : List Int} {L : List Kn} {a : Int} {k : Nat} (h1 : hopE nodes L a ((k + 1 : Nat) : Int) = 0) (h2 : ((k + 1 : Nat) : Int) ≠ a) : tblN nodes L a (k + 1) = tblN nodes L a k ++ [(((k + 1 : Nat) : Int), hopV nodes L a ((k + 1 : Nat) : Int))] := by
  rw [tblN, if_pos ⟨h1, h2⟩]
theorem tblN_no {nodes : List Int} {L : List Kn} {a : Int} {k : Nat} (h : ¬ (hopE nodes L a ((k + 1 : Nat) : Int) = 0 ∧ ((k + 1 : Nat) : Int) ≠ a)) : tblN nodes L a (k + 1) = tblN nodes L a k := by
  rw [tblN, if_neg h, List.append_nil]
theorem tblN_len {nodes : List Int} {L : List Kn} {a : Int} : ∀ {k : Nat}, (tblN nodes L a k).length ≤ k
  | 0 => Nat.le_refl _
  | k + 1 => by
    have := tblN_len (nodes := nodes) (L := L) (a := a) (k := k)
    rw [tblN, List.length_append]
    split <;> simp <;> omega
theorem tblN_mem {nodes : List Int} {L : List Kn} {a : Int} {p : Int × Int} : ∀ {k : Nat}, p ∈ tblN nodes L a k → 1 ≤ p.1 ∧ p.1 ≤ k ∧ hopE nodes L a p.1 = 0 ∧ p.1 ≠ a
  | 0, h => by cases h
  | k + 1, h => by
    rw [tblN, List.mem_append] at h
    rcases h with h | h
    · have := tblN_mem h
      exact ⟨this.1, by omega, this.2.2⟩
    · split at h
      · rename_i h1
        rw [List.mem_singleton] at h; subst h
        exact ⟨by simp; omega, by simp, h1⟩
      · cases h
theorem tblN_pre {nodes : List Int} {L : List Kn} {a : Int} {k : Nat} : ∀ {j : Nat}, k ≤ j → ∃ t, tblN nodes L a j = tblN nodes L a k ++ t := by
  intro j
  induction j with
  | zero =>
    intro h
    obtain rfl : k = 0 := by omega
    exact ⟨[], (List.append_nil _).symm⟩
  | succ j ih =>
    intro h
    by_cases hk : k = j + 1
    · subst hk; exact ⟨[], (List.append_nil _).symm⟩
    · obtain ⟨t, ht⟩ := ih (by omega)
      obtain ⟨x, hx⟩ : ∃ x, tblN nodes L a (j + 1) = tblN nodes L a j ++ x := ⟨_, rfl⟩
      exact ⟨t ++ x, by rw [hx, ht, List.append_assoc]⟩
attribute [local irreducible] AOps AOpsD AOp AWp put nargs AHeap.set At Free ACall ACallE thenQ blockQ roundQ RetQ RetE Src Gr side lkN chk hopE hopV ldr nxt VP.bnd inn mvB reachB lkB foB tblN

theorem next_hop {s : AHeap} {C : Option Addr} {k cc : Nat} {oe : Option Nat} {nodes : List Int} {L : List Kn} {a b : Int} (hE : EA s (.slice C k cc) oe (bnd L)) (bl : k ≤ 512) (hck : chk nodes L a = 0) (hb : TP.Node b) :
    ACall Try.prog 21 [.slice C k cc, .int .i64 a, .int .i64 b] s (.tuple #[.int .i64 (hopV nodes L a b), .int .i64 (hopE nodes L a b)]) s := by
  obtain ⟨hMV, ha, hfo, hin⟩ := chk_zero hck
  have hok : wOk (bnd L) a b = true := wOk_iff.2 ⟨hMV.good, hfo, ha, hb⟩
  cases hlk : lkB (bnd L) a b
  · have hnc : ¬ Conn (bnd L) a b := fun hcn => by rw [lkB_iff.2 ⟨ha, hb, hcn⟩] at hlk; cases hlk
    have hE2 : hopE nodes L a b = 9 := by unfold hopE; rw [if_pos hb, if_pos hck, if_neg (by rw [hlk]; simp)]
    have hV : hopV nodes L a b = 0 := hop_bad (by rw [hE2]; decide)
    rw [hE2, hV]
    exact next12_err (by decide) (way11_none hE bl hok hnc)
  · obtain ⟨p, hp⟩ := Way.ex (lkB_iff.1 hlk).2.2
    have hE2 : hopE nodes L a b = 0 := hop_ok.2 ⟨hb, hck, hlk⟩
    rw [hE2, hopV_ok hE2]
    exact next12_yes (hp.short (Good.node hMV.good) ha) (by obtain ⟨t, ht⟩ := hp.head; rw [ht]; simp) (nxt_eq (hMV.cut hfo) hp) (fun o ho => way11_yes hE bl hok hp ho)

theorem table_no {s : AHeap} {A B : Option Addr} {n c m d : Nat} {nodes : List Int} {L : List Kn} {a : Int} (h : VAt s A B n c m d nodes L) (hck : chk nodes L a ≠ 0) :
    ACall Try.prog 17 [.agg #[.slice A n c, .slice B m d], .int .i64 a] s (.tuple #[.slice none 0 0, .int .i64 (chk nodes L a)]) s := by
  refine ACall.make Try.func17 rfl (by kernel_rfl) (by decide) rfl (fun N hN0 => ?_)
  have hT : Top N s := hN0
  have F1 : Fr (s.set N (.cells true 1 [.slice A n c, .slice B m d])) s [] := Fr.new (hT.free (Nat.le_refl _)) (Fr.refl _ _)
  have c19 := boundR_no (h.fr F1) hck

  (repeat' (first | (apply Ab.K.ev; exact ev_) | (apply Ab.K.aops; first | (apply Xg.s; constructor) | (apply Ab.S.guardU; (case hd => rfl); (case hb => (exact ev_; done))) | apply Ab.S.guardG) | (apply Ab.K.aop; first | (apply Ab.O.boxA (l := [.slice A n c, .slice B m d]) N; (case hx => exact ev_); (case hid => exact hT.free (Nat.le_refl _))) | (apply Og.s; constructor)) | (apply Ab.K.gk; first | (apply Xg.s; constructor) | (apply Ab.gY; case hw => assumption) | (apply Ab.gNT; case hw => assumption) | (apply Ab.gNF; case hw => assumption) | ((first | apply Ab.gD | apply Ab.gDN); all_goals (intro _ _; (first | contradiction | (exfalso; omega) | skip)))) | (apply Ab.K.awp; first | (apply Xg.s; constructor)) | (apply Ab.K.at_; exact at_) | (apply Ab.K.acall; first | assumption | exact c19) | (apply Ab.Rg.mk; omega) | (apply Ab.Lt.mk; first | decide | (simp; done) | (simp; omega) | fail) | (apply Ab.Get.mk; first | rfl | rfl) | (apply Ab.Nm.mk; first | exact (show (([.slice A n c, .slice B m d] : List Value).drop 0).take 2 = [.slice A n c, .slice B m d] from rfl) | exact nrm_) | (apply Xg.s; constructor) | (apply Ab.asm; assumption) | rfl | infer_instance | decide))
  all_goals ((first | apply RetQ.ret | apply RetQ.normal); (case he => exact evr_); (case hg => rfl))
  all_goals first | rfl | (apply Keeps.fr; (case h => exact fr_); (case hv => exact plR.nm rfl))

set_option maxHeartbeats 4000000 in
theorem table_yes {s : AHeap} {A B : Option Addr} {n c m d : Nat} {nodes : List Int} {L : List Kn} {a : Int} (h : VAt s A B n c m d nodes L) (hck : chk nodes L a = 0) :
    ACallE Try.prog 17 [.agg #[.slice A n c, .slice B m d], .int .i64 a] s (fun v s' => ∃ w, v = .tuple #[w, .int .i64 0] ∧ NewL s 2 w (tblN nodes L a 64).length (pcs (tblN nodes L a 64)) s') := by
  obtain ⟨hMV, ha, hfo, hin⟩ := chk_zero hck
  have bl : (bnd L).length ≤ 512 := by have := bnd_len hMV.2; have := h.mm; have := h.len; omega
  refine ACallE.make Try.func17 rfl (by kernel_rfl) (by decide) rfl (fun N hN0 => ?_)
  have hT : Top N s := hN0
  have F1 : Fr (s.set N (.cells true 1 [.slice A n c, .slice B m d])) s [] := Fr.new (hT.free (Nat.le_refl _)) (Fr.refl _ _)
  have c19 := boundR_yes (h.fr F1) hck
  (repeat' (first | (apply Ab.K.ev; exact ev_) | (apply Ab.K.aops; first | (apply Xg.s; constructor) | (apply Ab.S.guardU; (case hd => rfl); (case hb => (exact ev_; done))) | apply Ab.S.guardG) | (apply Ab.K.aop; first | (first | (apply Ab.O.boxA (l := [.slice A n c, .slice B m d]) N; (case hx => exact ev_); (case hid => exact hT.free (Nat.le_refl _))) | (apply Ab.O.callFE; (case ha => exact evs_); (case hc => exact c19))) | (apply Og.s; constructor)) | (apply Ab.K.gk; first | (apply Xg.s; constructor) | (apply Ab.gY; case hw => assumption) | (apply Ab.gNT; case hw => assumption) | (apply Ab.gNF; case hw => assumption) | ((first | apply Ab.gD | apply Ab.gDN); all_goals (intro _ _; (first | contradiction | (exfalso; omega) | skip)))) | (apply Ab.K.awp; first | (apply Xg.s; constructor)) | (apply Ab.K.at_; exact at_) | (apply Ab.K.acall; first | assumption | fail) | (apply Ab.Rg.mk; omega) | (apply Ab.Lt.mk; first | decide | (simp; done) | (simp; omega) | fail) | (apply Ab.Get.mk; first | rfl | rfl) | (apply Ab.Nm.mk; first | exact (show (([.slice A n c, .slice B m d] : List Value).drop 0).take 2 = [.slice A n c, .slice B m d] from rfl) | exact nrm_) | (apply Xg.s; constructor) | (apply Ab.asm; assumption) | rfl | infer_instance | decide))
  rintro v2 s2 ⟨w, rfl, hw⟩
  clear c19
  obtain ⟨M0, hM0, T0⟩ := hw.top (hT.new (b := .cells true 1 [.slice A n c, .slice B m d]))
  have F2 : Fr s2 s [] := fun i hi c hc => hw.fr i hi c (F1 i hi c hc)
  obtain ⟨C, cc, oe, rfl, hE⟩ := hw.ea rfl
  (repeat' (first | (apply Ab.K.ev; exact ev_) | (apply Ab.K.aops; first | (apply Xg.s; constructor) | (apply Ab.S.guardU; (case hd => rfl); (case hb => (exact ev_; done))) | apply Ab.S.guardG) | (apply Ab.K.aop; first | (apply Og.s; constructor)) | (apply Ab.K.gk; first | (apply Xg.s; constructor) | (apply Ab.gY; case hw => assumption) | (apply Ab.gNT; case hw => assumption) | (apply Ab.gNF; case hw => assumption) | ((first | apply Ab.gD | apply Ab.gDN); all_goals (intro _ _; (first | contradiction | (exfalso; omega) | skip)))) | (apply Ab.K.awp; first | (apply Xg.s; constructor)) | (apply Ab.K.at_; exact at_) | (apply Ab.K.acall; first | assumption | fail) | (apply Ab.Rg.mk; omega) | (apply Ab.Lt.mk; first | decide | (simp; done) | (simp; omega) | fail) | (apply Ab.Get.mk; first | rfl | rfl) | (apply Ab.Nm.mk; first | exact (show (([.slice A n c, .slice B m d] : List Value).drop 0).take 2 = [.slice A n c, .slice B m d] from rfl) | exact nrm_) | (apply Xg.s; constructor) | (apply Ab.asm; assumption) | rfl | infer_instance | decide))
  refine AWp.loop (fun kk tm s1 => ∃ (j k M : Nat) (v : Value) (ov : Option Nat) (r : List (Int × Int)), Ev tm (.tmp 1) (.int .i64 a) ∧ Ev tm (.tmp 6) (.slice C (bnd L).length cc) ∧ Ev tm (.tmp 8) v ∧ Ev tm (.tmp 9) (.int .i64 ((j + 1 : Nat) : Int)) ∧ EA s1 (.slice C (bnd L).length cc) oe (bnd L) ∧ (∀ q, oe = some q → q < M0) ∧ Gr s1 2 M0 v ov k (pcs r) ∧ k = r.length ∧ r = tblN nodes L a j ∧ Fr s1 s [] ∧ Top M s1 ∧ M0 ≤ M ∧ j ≤ 64 ∧ kk = 64 - j) 64 ?_ ?_
  · exact ⟨0, 0, M0, _, _, [], by exact ev_, by exact ev_, by exact ev_, by exact ev_, hE, hE.lt T0, Gr.nil, rfl, tblN_zero.symm, F2, T0, Nat.le_refl _, by omega, rfl⟩
  clear hE F2 hw T0
  rintro kk tm s1 ⟨j, k, M, v, ov, r, e1, e6, e8, e9, hE, hEM, G, hk, hr, F, T, hMM, hj, hkk⟩
  have hlt := G.lt T
  have hge := G.from_
  have hrl : k ≤ 64 := by rw [hk, hr]; exact Nat.le_trans tblN_len hj
  by_cases hjn : j < 64
  · have c21 := next_hop (b := ((j + 1 : Nat) : Int)) hE bl hck ⟨by omega, by omega⟩
    by_cases hh : hopE nodes L a ((j + 1 : Nat) : Int) = 0 ∧ ((j + 1 : Nat) : Int) ≠ a
    · obtain ⟨h1, h2⟩ := hh
      have hr1 := tblN_yes h1 h2
      rw [← hr] at hr1
      rw [h1] at c21
      (repeat' (first | (apply Ab.K.ev; exact ev_) | (apply Ab.K.aops; first | (apply Xg.s; constructor) | (apply Ab.S.guardU; (case hd => rfl); (case hb => (exact ev_; done))) | apply Ab.S.guardG) | (apply Ab.K.aop; first | (apply Ab.O.build1A M; (case hx => exact ev_); (case hl => rfl); (case hz => exact ⟨rfl, rfl⟩); (case hes => decide); (case hid => exact T.free (Nat.le_refl _))) | (apply Og.s; constructor)) | (apply Ab.K.gk; first | (apply Xg.s; constructor) | (apply Ab.gY; case hw => assumption) | (apply Ab.gNT; case hw => assumption) | (apply Ab.gNF; case hw => assumption) | ((first | apply Ab.gD | apply Ab.gDN); all_goals (intro _ _; (first | contradiction | (exfalso; omega) | skip)))) | (apply Ab.K.awp; first | (apply Xg.s; constructor)) | (apply Ab.K.at_; exact at_) | (apply Ab.K.acall; first | assumption | exact c21) | (apply Ab.Rg.mk; omega) | (apply Ab.Lt.mk; first | decide | (simp; done) | (simp; omega) | fail) | (apply Ab.Get.mk; first | rfl | rfl) | (apply Ab.Nm.mk; first | exact (show (([.slice A n c, .slice B m d] : List Value).drop 0).take 2 = [.slice A n c, .slice B m d] from rfl) | exact nrm_) | (apply Xg.s; constructor) | (apply Ab.asm; assumption) | rfl | infer_instance | decide))
      have G4 := G.set (id := M) (b := .cells true 2 (pc (((j + 1 : Nat) : Int), hopV nodes L a ((j + 1 : Nat) : Int)))) (fun q e => by have := hlt q e; omega)
      clear G
      (apply Ab.O.appendL (M + 1); (case hx => exact ev_); (case hL => exact Ab.Gr.lat (by assumption)); (case hy => exact ev_); (case hs => exact srcAll At.hit rfl); (case hk => rfl); (case hm => decide); (case hl => first | rfl | simp); (case hz => decide); (case hb => omega); (case hfree => exact free_))
      intro s4 g
      have T5 := G4.topN g T.new
      have F5 := G4.frN g (Fr.new (hT.free (by omega)) F) (hT.mono (by omega))
      have hE5 : EA s4 (.slice C (bnd L).length cc) oe (bnd L) := hE.of_at fun o ho => by
        have := hEM o ho
        rw [g.off o (fun e => by have := hge o e; omega) (by omega), AHeap.set_other _ _ (by omega)]
      have hpa : pcs r ++ pc (((j + 1 : Nat) : Int), hopV nodes L a ((j + 1 : Nat) : Int)) = pcs (tblN nodes L a (j + 1)) := by rw [hr1, pcs_append]; simp [pcs]
      have g' := g
      rw [show ([Value.int .i64 ((j + 1 : Nat) : Int), .int .i64 (hopV nodes L a ((j + 1 : Nat) : Int))] : List Value) = pc (((j + 1 : Nat) : Int), hopV nodes L a ((j + 1 : Nat) : Int)) from rfl, hpa] at g'
      have G5 : Gr s4 2 M0 _ _ (k + 1) _ := Gr.app g' (by rw [pcs_length, hr1, List.length_append, hk]; rfl) (by omega)
      (repeat' (first | (apply Ab.K.ev; exact ev_) | (apply Ab.K.aops; first | (apply Xg.s; constructor) | (apply Ab.S.guardU; (case hd => rfl); (case hb => (exact ev_; done))) | apply Ab.S.guardG) | (apply Ab.K.aop; first | (apply Og.s; constructor)) | (apply Ab.K.gk; first | (apply Xg.s; constructor) | (apply Ab.gY; case hw => assumption) | (apply Ab.gNT; case hw => assumption) | (apply Ab.gNF; case hw => assumption) | ((first | apply Ab.gD | apply Ab.gDN); all_goals (intro _ _; (first | contradiction | (exfalso; omega) | skip)))) | (apply Ab.K.awp; first | (apply Xg.s; constructor)) | (apply Ab.K.at_; exact at_) | (apply Ab.K.acall; first | assumption | exact c21) | (apply Ab.Rg.mk; omega) | (apply Ab.Lt.mk; first | decide | (simp; done) | (simp; omega) | fail) | (apply Ab.Get.mk; first | rfl | rfl) | (apply Ab.Nm.mk; first | exact (show (([.slice A n c, .slice B m d] : List Value).drop 0).take 2 = [.slice A n c, .slice B m d] from rfl) | exact nrm_) | (apply Xg.s; constructor) | (apply Ab.asm; assumption) | rfl | infer_instance | decide))
      exact X.roundN (64 - (j + 1)) (by omega) ⟨j + 1, k + 1, M + 2, _, _, _, by exact ev_, by exact ev_, by exact ev_, by exact ev_, hE5, hEM, G5, by rw [hr1, List.length_append, hk]; rfl, rfl, F5, T5, by omega, by omega, rfl⟩
    · have hr1 := tblN_no hh
      rw [← hr] at hr1
      by_cases h1 : hopE nodes L a ((j + 1 : Nat) : Int) = 0
      · have h2 : ((j + 1 : Nat) : Int) = a := by
          by_cases h2 : ((j + 1 : Nat) : Int) = a
          · exact h2
          · exact absurd ⟨h1, h2⟩ hh
        rw [h1] at c21
        (repeat' (first | (apply Ab.K.ev; exact ev_) | (apply Ab.K.aops; first | (apply Xg.s; constructor) | (apply Ab.S.guardU; (case hd => rfl); (case hb => (exact ev_; done))) | apply Ab.S.guardG) | (apply Ab.K.aop; first | (apply Og.s; constructor)) | (apply Ab.K.gk; first | (apply Xg.s; constructor) | (apply Ab.gY; case hw => assumption) | (apply Ab.gNT; case hw => assumption) | (apply Ab.gNF; case hw => assumption) | ((first | apply Ab.gD | apply Ab.gDN); all_goals (intro _ _; (first | contradiction | (exfalso; omega) | skip)))) | (apply Ab.K.awp; first | (apply Xg.s; constructor)) | (apply Ab.K.at_; exact at_) | (apply Ab.K.acall; first | assumption | exact c21) | (apply Ab.Rg.mk; omega) | (apply Ab.Lt.mk; first | decide | (simp; done) | (simp; omega) | fail) | (apply Ab.Get.mk; first | rfl | rfl) | (apply Ab.Nm.mk; first | exact (show (([.slice A n c, .slice B m d] : List Value).drop 0).take 2 = [.slice A n c, .slice B m d] from rfl) | exact nrm_) | (apply Xg.s; constructor) | (apply Ab.asm; assumption) | rfl | infer_instance | decide))
        exact X.roundN (64 - (j + 1)) (by omega) ⟨j + 1, k, M, v, ov, r, by exact ev_, by exact ev_, by exact ev_, by exact ev_, hE, hEM, G, hk, hr1.symm, F, T, by omega, by omega, rfl⟩
      · (repeat' (first | (apply Ab.K.ev; exact ev_) | (apply Ab.K.aops; first | (apply Xg.s; constructor) | (apply Ab.S.guardU; (case hd => rfl); (case hb => (exact ev_; done))) | apply Ab.S.guardG) | (apply Ab.K.aop; first | (apply Og.s; constructor)) | (apply Ab.K.gk; first | (apply Xg.s; constructor) | (apply Ab.gY; case hw => assumption) | (apply Ab.gNT; case hw => assumption) | (apply Ab.gNF; case hw => assumption) | ((first | apply Ab.gD | apply Ab.gDN); all_goals (intro _ _; (first | contradiction | (exfalso; omega) | skip)))) | (apply Ab.K.awp; first | (apply Xg.s; constructor)) | (apply Ab.K.at_; exact at_) | (apply Ab.K.acall; first | assumption | exact c21) | (apply Ab.Rg.mk; omega) | (apply Ab.Lt.mk; first | decide | (simp; done) | (simp; omega) | fail) | (apply Ab.Get.mk; first | rfl | rfl) | (apply Ab.Nm.mk; first | exact (show (([.slice A n c, .slice B m d] : List Value).drop 0).take 2 = [.slice A n c, .slice B m d] from rfl) | exact nrm_) | (apply Xg.s; constructor) | (apply Ab.asm; assumption) | rfl | infer_instance | decide))
        exact X.roundN (64 - (j + 1)) (by omega) ⟨j + 1, k, M, v, ov, r, by exact ev_, by exact ev_, by exact ev_, by exact ev_, hE, hEM, G, hk, hr1.symm, F, T, by omega, by omega, rfl⟩
  · obtain rfl : j = 64 := by omega
    obtain ⟨s', hs', _, hkeep⟩ := G.newL F (hT.mono (by omega)) (pcs_pl _)
    have hq : ∃ w, Value.tuple #[v, .int .i64 0] = .tuple #[w, .int .i64 0] ∧ NewL s 2 w (tblN nodes L a 64).length (pcs (tblN nodes L a 64)) s' := ⟨v, rfl, by rw [← hr, ← hk]; exact hs'⟩
    have hk0 := hkeep .i64 0
    rcases hs'.val with rfl | ⟨u, rfl⟩
    all_goals
      (repeat' (first | (apply Ab.K.ev; exact ev_) | (apply Ab.K.aops; first | (apply Xg.s; constructor) | (apply Ab.S.guardU; (case hd => rfl); (case hb => (exact ev_; done))) | apply Ab.S.guardG) | (apply Ab.K.aop; first | (apply Og.s; constructor)) | (apply Ab.K.gk; first | (apply Xg.s; constructor) | (apply Ab.gY; case hw => assumption) | (apply Ab.gNT; case hw => assumption) | (apply Ab.gNF; case hw => assumption) | ((first | apply Ab.gD | apply Ab.gDN); all_goals (intro _ _; (first | contradiction | (exfalso; omega) | skip)))) | (apply Ab.K.awp; first | (apply Xg.s; constructor)) | (apply Ab.K.at_; exact at_) | (apply Ab.K.acall; first | assumption | exact c21) | (apply Ab.Rg.mk; omega) | (apply Ab.Lt.mk; first | decide | (simp; done) | (simp; omega) | fail) | (apply Ab.Get.mk; first | rfl | rfl) | (apply Ab.Nm.mk; first | exact (show (([.slice A n c, .slice B m d] : List Value).drop 0).take 2 = [.slice A n c, .slice B m d] from rfl) | exact nrm_) | (apply Xg.s; constructor) | (apply Ab.asm; assumption) | rfl | infer_instance | decide))
      all_goals ((first | apply RetE.ret | apply RetE.normal); (case he => exact evr_); (case hg => rfl))
      · exact hq
      · exact hk0
end Go.Proofs.Ytdbnpghckgmaoaa

/- views: the view that nodes have of edges (by the document), and the small question. -/
namespace Go.Proofs.Ytdbnpghckgmaoaa
set_option linter.unusedVariables false
set_option linter.unusedSimpArgs false
set_option linter.unusedSectionVars false
open Go.RowKit Ab TP VP
/-- What a node tells of another one. -/
def vk (mk : List E) (a b : Int) (e : E) : Option Kn := if (e.a = a ∧ e.b = b) ∨ (e.b = a ∧ e.a = b) then some ⟨a, b, e.w, 1, decide (e ∈ mk)⟩ else none
def vrow (l mk : List E) (a : Int) (j : Nat) : List Kn := (List.range j).flatMap fun i => l.filterMap (vk mk a ((i + 1 : Nat) : Int))
def vlinks (nodes : List Int) (l mk : List E) : List Kn := nodes.flatMap fun a => vrow l mk a 64
theorem vrow_succ {l mk : List E} {a : Int} {j : Nat} : vrow l mk a (j + 1) = vrow l mk a j ++ l.filterMap (vk mk a ((j + 1 : Nat) : Int)) := by
  unfold vrow; rw [List.range_succ, List.flatMap_append]; simp
theorem vk_snoc {l mk : List E} {a b : Int} {e : E} : (l ++ [e]).filterMap (vk mk a b) = l.filterMap (vk mk a b) ++ (vk mk a b e).toList := by
  rw [List.filterMap_append]
  cases h : vk mk a b e <;> simp [h]
theorem vk_len {l mk : List E} {a b : Int} : (l.filterMap (vk mk a b)).length ≤ l.length := List.length_filterMap_le _ _
theorem vrow_len {l mk : List E} {a : Int} {j : Nat} : (vrow l mk a j).length ≤ j * l.length := by
  induction j with
  | zero => simp [vrow]
  | succ j ih => rw [vrow_succ, List.length_append, Nat.add_mul, Nat.one_mul]; have := vk_len (l := l) (mk := mk) (a := a) (b := ((j + 1 : Nat) : Int)); omega
theorem vlinks_len {l mk : List E} {nodes : List Int} : (vlinks nodes l mk).length ≤ nodes.length * (64 * l.length) := by
  unfold vlinks
  induction nodes with
  | nil => simp
  | cons a t ih => rw [List.flatMap_cons, List.length_append, List.length_cons, Nat.add_mul, Nat.one_mul]; have := vrow_len (l := l) (mk := mk) (a := a) (j := 64); omega
theorem Gr_cases {s : AHeap} {es N k : Nat} {v : Value} {on : Option Nat} {xs : List Value} (G : Gr s es N v on k xs) : (v = .slice none 0 0 ∧ on = none ∧ k = 0 ∧ xs = []) ∨ ∃ q, on = some q ∧ v = .slice (some ⟨q, 0, none⟩) k k ∧ At s q (.cells true es xs) ∧ xs.length = k * es ∧ N ≤ q := G
attribute [local irreducible] AOps AOpsD AOp AWp put nargs AHeap.set At Free ACall ACallE thenQ blockQ roundQ RetQ RetE Src Gr vrow

set_option maxHeartbeats 8000000 in
theorem view10 {s : AHeap} {q qe qm : Nat} {nodes : List Int} {l mk : List E} (hN : At s q (.cells true 1 (ints nodes))) (hE : At s qe (.cells true 3 (ecs l))) (hM : At s qm (.cells true 3 (ecs mk))) (hn : nodes.length ≤ 64) (hl : l.length ≤ 64) (hm : mk.length ≤ 64) (hpos : vlinks nodes l mk ≠ []) :
    ACallE Try.prog 18 [.slice (some ⟨q, 0, none⟩) nodes.length nodes.length, .slice (some ⟨qe, 0, none⟩) l.length l.length, .slice (some ⟨qm, 0, none⟩) mk.length mk.length] s
      (fun v s' => ∃ u, v = .agg #[.slice (some ⟨q, 0, none⟩) nodes.length nodes.length, .slice (some ⟨u, 0, none⟩) (vlinks nodes l mk).length (vlinks nodes l mk).length] ∧ s u = none ∧ s' = s.set u (.cells true 5 (kcs (vlinks nodes l mk)))) := by
  have hvl := vlinks_len (l := l) (mk := mk) (nodes := nodes)
  refine ACallE.make Try.func18 rfl (by kernel_rfl) (by decide) rfl (fun N hN0 => ?_)
  have hT : Top N s := hN0
  have hqN := hT.lt hN
  have heN := hT.lt hE
  have hmN := hT.lt hM

  (repeat' (first | (apply Ab.K.ev; exact ev_) | (apply Ab.K.aops; first | (apply Xg.s; constructor) | (apply Ab.S.guardU; (case hd => rfl); (case hb => (exact ev_; done))) | apply Ab.S.guardG) | (apply Ab.K.aop; first | (first | (apply Ab.O.allocA (l := [.slice none 0 0, .slice none 0 0]) N; (case hid => exact frees_); (case hp => rfl)) | (apply Ab.O.allocA (l := [.slice none 0 0, .slice none 0 0]) (N + 1); (case hid => exact frees_); (case hp => rfl)) | (apply Ab.O.storeAll; (case hz => rfl); (case hx => exact ev_); (case hy => exact ev_); (case hs => exact at_); (case hl => rfl); (case hc => rfl))) | (apply Og.s; constructor)) | (apply Ab.K.gk; first | (apply Xg.s; constructor) | (apply Ab.gY; case hw => assumption) | (apply Ab.gNT; case hw => assumption) | (apply Ab.gNF; case hw => assumption) | ((first | apply Ab.gD | apply Ab.gDN); all_goals (intro _ _; (first | contradiction | (exfalso; omega) | skip)))) | (apply Ab.K.awp; first | (apply Xg.s; constructor)) | (apply Ab.K.at_; exact at_) | (apply Ab.K.acall; first | assumption | fail) | (apply Ab.Rg.mk; omega) | (apply Ab.Lt.mk; first | decide | (simp; done) | (simp; omega) | fail) | (apply Ab.Get.mk; first | rfl | first | rfl) | (apply Ab.Nm.mk; first | exact nrm_) | (apply Xg.s; constructor) | (apply Ab.asm; assumption) | rfl | infer_instance | decide))
  refine AWp.loop (fun kk tm s1 => ∃ (i k M : Nat) (v : Value) (ov : Option Nat) (r : List Kn), Ev tm (.tmp 0) (.slice (some ⟨q, 0, none⟩) nodes.length nodes.length) ∧ Ev tm (.tmp 1) (.slice (some ⟨qe, 0, none⟩) l.length l.length) ∧ Ev tm (.tmp 2) (.slice (some ⟨qm, 0, none⟩) mk.length mk.length) ∧ Ev tm (.tmp 6) (.pointer (some ⟨N, 0, none⟩)) ∧ Ev tm (.tmp 7) (.pointer (some ⟨N + 1, 0, none⟩)) ∧ Ev tm (.tmp 8) (.int .i64 i) ∧ At s1 N (.cells true 1 [.slice none 0 0, .slice none 0 0]) ∧ At s1 (N + 1) (.cells true 1 [.slice (some ⟨q, 0, none⟩) nodes.length nodes.length, v]) ∧ Gr s1 5 (N + 2) v ov k (kcs r) ∧ k = r.length ∧ r = vlinks (nodes.take i) l mk ∧ Fr s1 s [] ∧ Top M s1 ∧ N + 2 ≤ M ∧ i ≤ nodes.length ∧ kk = nodes.length - i) nodes.length ?_ ?_
  · exact ⟨0, 0, N + 2, _, _, [], by exact ev_, by exact ev_, by exact ev_, by exact ev_, by exact ev_, by exact ev_, by exact at_, by exact at_, Gr.nil, rfl, rfl, by exact fr_, by exact top_, Nat.le_refl _, by omega, rfl⟩
  rintro kk tm s1 ⟨i, k, M, v, ov, r, e0, e1, e2, e6, e7, e8, a6, a7, G, hk, hr, F, T, hMM, hi, hkk⟩
  by_cases hin : i < nodes.length
  · obtain ⟨a, ha⟩ : ∃ a, nodes[i]? = some a := ⟨_, List.getElem?_eq_getElem hin⟩
    have htk : nodes.take (i + 1) = nodes.take i ++ [a] := by rw [List.take_add_one, ha]; rfl
    have hfin : vlinks (nodes.take (i + 1)) l mk = r ++ vrow l mk a 64 := by rw [htk, hr]; unfold vlinks; rw [List.flatMap_append]; simp
    have hrl : r.length ≤ 64 * (64 * 64) := by rw [hr]; exact Nat.le_trans vlinks_len (by rw [List.length_take]; exact Nat.mul_le_mul (by omega) (Nat.mul_le_mul (Nat.le_refl _) hl))
    have ga := ints_get ha
    (repeat' (first | (apply Ab.K.ev; exact ev_) | (apply Ab.K.aops; first | (apply Xg.s; constructor) | (apply Ab.S.guardU; (case hd => rfl); (case hb => (exact ev_; done))) | apply Ab.S.guardG) | (apply Ab.K.aop; first | (apply Og.s; constructor)) | (apply Ab.K.gk; first | (apply Xg.s; constructor) | (apply Ab.gY; case hw => assumption) | (apply Ab.gNT; case hw => assumption) | (apply Ab.gNF; case hw => assumption) | ((first | apply Ab.gD | apply Ab.gDN); all_goals (intro _ _; (first | contradiction | (exfalso; omega) | skip)))) | (apply Ab.K.awp; first | (apply Xg.s; constructor)) | (apply Ab.K.at_; exact at_) | (apply Ab.K.acall; first | assumption | fail) | (apply Ab.Rg.mk; omega) | (apply Ab.Lt.mk; first | decide | (simp; done) | (simp; omega) | fail) | (apply Ab.Get.mk; first | rfl | first | rfl) | (apply Ab.Nm.mk; first | exact nrm_) | (apply Xg.s; constructor) | (apply Ab.asm; assumption) | rfl | infer_instance | decide))
    refine AWp.loop (fun k2 tm s2 => ∃ (j k M : Nat) (v : Value) (ov : Option Nat) (r2 : List Kn), Ev tm (.tmp 0) (.slice (some ⟨q, 0, none⟩) nodes.length nodes.length) ∧ Ev tm (.tmp 1) (.slice (some ⟨qe, 0, none⟩) l.length l.length) ∧ Ev tm (.tmp 2) (.slice (some ⟨qm, 0, none⟩) mk.length mk.length) ∧ Ev tm (.tmp 6) (.pointer (some ⟨N, 0, none⟩)) ∧ Ev tm (.tmp 7) (.pointer (some ⟨N + 1, 0, none⟩)) ∧ Ev tm (.tmp 8) (.int .i64 i) ∧ Ev tm (.tmp 9) (.int .i64 ((j + 1 : Nat) : Int)) ∧ At s2 N (.cells true 1 [.slice none 0 0, .slice none 0 0]) ∧ At s2 (N + 1) (.cells true 1 [.slice (some ⟨q, 0, none⟩) nodes.length nodes.length, v]) ∧ Gr s2 5 (N + 2) v ov k (kcs r2) ∧ k = r2.length ∧ r2 = r ++ vrow l mk a j ∧ Fr s2 s [] ∧ Top M s2 ∧ N + 2 ≤ M ∧ j ≤ 64 ∧ k2 = 64 - j) 64 ?_ ?_
    · exact ⟨0, k, M, v, ov, r, by exact ev_, by exact ev_, by exact ev_, by exact ev_, by exact ev_, by exact ev_, by exact ev_, a6, a7, G, hk, (by unfold vrow; simp), F, T, hMM, by omega, rfl⟩
    clear e0 e1 e2 e6 e7 e8 a6 a7 G hk hr F T hMM
    rintro k2 tm s2 ⟨j, k, M, v, ov, r2, e0, e1, e2, e6, e7, e8, e9, a6, a7, G, hk, hr2, F, T, hMM, hj, hk2⟩
    have hr2l : r2.length ≤ 64 * (64 * 64) + 64 * 64 := by
      rw [hr2, List.length_append]; have := vrow_len (l := l) (mk := mk) (a := a) (j := j); have h3 : j * l.length ≤ 64 * 64 := Nat.mul_le_mul hj hl; omega
    by_cases hjn : j < 64
    · (repeat' (first | (apply Ab.K.ev; exact ev_) | (apply Ab.K.aops; first | (apply Xg.s; constructor) | (apply Ab.S.guardU; (case hd => rfl); (case hb => (exact ev_; done))) | apply Ab.S.guardG) | (apply Ab.K.aop; first | (apply Og.s; constructor)) | (apply Ab.K.gk; first | (apply Xg.s; constructor) | (apply Ab.gY; case hw => assumption) | (apply Ab.gNT; case hw => assumption) | (apply Ab.gNF; case hw => assumption) | ((first | apply Ab.gD | apply Ab.gDN); all_goals (intro _ _; (first | contradiction | (exfalso; omega) | skip)))) | (apply Ab.K.awp; first | (apply Xg.s; constructor)) | (apply Ab.K.at_; exact at_) | (apply Ab.K.acall; first | assumption | fail) | (apply Ab.Rg.mk; omega) | (apply Ab.Lt.mk; first | decide | (simp; done) | (simp; omega) | fail) | (apply Ab.Get.mk; first | rfl | first | rfl) | (apply Ab.Nm.mk; first | exact nrm_) | (apply Xg.s; constructor) | (apply Ab.asm; assumption) | rfl | infer_instance | decide))
      refine AWp.loop (fun k3 tm s3 => ∃ (c k M : Nat) (v : Value) (ov : Option Nat) (r3 : List Kn), Ev tm (.tmp 0) (.slice (some ⟨q, 0, none⟩) nodes.length nodes.length) ∧ Ev tm (.tmp 1) (.slice (some ⟨qe, 0, none⟩) l.length l.length) ∧ Ev tm (.tmp 2) (.slice (some ⟨qm, 0, none⟩) mk.length mk.length) ∧ Ev tm (.tmp 6) (.pointer (some ⟨N, 0, none⟩)) ∧ Ev tm (.tmp 7) (.pointer (some ⟨N + 1, 0, none⟩)) ∧ Ev tm (.tmp 8) (.int .i64 i) ∧ Ev tm (.tmp 9) (.int .i64 ((j + 1 : Nat) : Int)) ∧ Ev tm (.tmp 10) (.int .i64 c) ∧ At s3 N (.cells true 1 [.slice none 0 0, .slice none 0 0]) ∧ At s3 (N + 1) (.cells true 1 [.slice (some ⟨q, 0, none⟩) nodes.length nodes.length, v]) ∧ Gr s3 5 (N + 2) v ov k (kcs r3) ∧ k = r3.length ∧ r3 = r2 ++ (l.take c).filterMap (vk mk a ((j + 1 : Nat) : Int)) ∧ Fr s3 s [] ∧ Top M s3 ∧ N + 2 ≤ M ∧ c ≤ l.length ∧ k3 = l.length - c) l.length ?_ ?_
      · exact ⟨0, k, M, v, ov, r2, by exact ev_, by exact ev_, by exact ev_, by exact ev_, by exact ev_, by exact ev_, by exact ev_, by exact ev_, a6, a7, G, hk, by simp, F, T, hMM, by omega, rfl⟩
      clear e0 e1 e2 e6 e7 e8 e9 a6 a7 G hk F T hMM
      rintro k3 tm s3 ⟨c, k, M, v, ov, r3, e0, e1, e2, e6, e7, e8, e9, e10, a6, a7, G, hk, hr3, F, T, hMM, hc, hk3⟩
      have hlt := G.lt T
      have hge := G.from_
      have hr3l : r3.length ≤ 1000000 := by
        rw [hr3, List.length_append]; have := vk_len (l := l.take c) (mk := mk) (a := a) (b := ((j + 1 : Nat) : Int)); rw [List.length_take] at this; omega
      by_cases hcn : c < l.length
      · obtain ⟨e, he⟩ : ∃ e, l[c]? = some e := ⟨_, List.getElem?_eq_getElem hcn⟩
        have htkc : l.take (c + 1) = l.take c ++ [e] := by rw [List.take_add_one, he]; rfl
        have hnext : r2 ++ (l.take (c + 1)).filterMap (vk mk a ((j + 1 : Nat) : Int)) = r3 ++ (vk mk a ((j + 1 : Nat) : Int) e).toList := by rw [htkc, vk_snoc, hr3, List.append_assoc]
        have hE3 := At.var (F qe (by simp) _ hE.eq)
        have hN3 := At.var (F q (by simp) _ hN.eq)
        have hM3 := At.var (F qm (by simp) _ hM.eq)
        have gE := ecs_get he
        have hel := ecs_length l
        obtain ⟨s4, hs4⟩ : ∃ s4, s4 = (s3.set M (.cells true 1 (ec ⟨0, 0, 0⟩))).set M (.cells true 1 (ec e)) := ⟨_, rfl⟩
        have F4 : Fr s4 s [] := by rw [hs4, AHeap.set_set]; exact Fr.new (hT.free (by omega)) F
        have T4 : Top (M + 1) s4 := by rw [hs4, AHeap.set_set]; exact T.new
        have aM : At s4 M (.cells true 1 (ec e)) := by rw [hs4]; exact At.hit
        have a64 : At s4 N (.cells true 1 [.slice none 0 0, .slice none 0 0]) := by rw [hs4]; exact at_
        have a74 : At s4 (N + 1) (.cells true 1 [.slice (some ⟨q, 0, none⟩) nodes.length nodes.length, v]) := by rw [hs4]; exact at_
        have G4 : Gr s4 5 (N + 2) v ov k (kcs r3) := by rw [hs4]; exact (G.set (fun q e => by have := hlt q e; omega)).set (fun q e => by have := hlt q e; omega)




        by_cases hcond : (e.a = a ∧ e.b = ((j + 1 : Nat) : Int)) ∨ (e.b = a ∧ e.a = ((j + 1 : Nat) : Int))
        case neg =>
          have hr4 : r3 = r2 ++ (l.take (c + 1)).filterMap (vk mk a ((j + 1 : Nat) : Int)) := by rw [hnext]; unfold vk; rw [if_neg hcond]; simp
          have hc2 : (e.a = a ∧ ¬ e.b = ((j + 1 : Nat) : Int)) ∨ ¬ e.a = a := by
            by_cases h1 : e.a = a
            · exact .inl ⟨h1, fun h2 => hcond (.inl ⟨h1, h2⟩)⟩
            · exact .inr h1
          have hc3 : (e.b = a ∧ ¬ e.a = ((j + 1 : Nat) : Int)) ∨ ¬ e.b = a := by
            by_cases h1 : e.b = a
            · exact .inl ⟨h1, fun h2 => hcond (.inr ⟨h1, h2⟩)⟩
            · exact .inr h1
          rcases hc2 with ⟨h1, h2⟩ | h1
          all_goals rcases hc3 with ⟨h3, h4⟩ | h3
          all_goals
            (repeat' (first | (apply Ab.K.ev; exact ev_) | (apply Ab.K.aops; first | (apply Xg.s; constructor) | (apply Ab.S.guardU; (case hd => rfl); (case hb => (exact ev_; done))) | apply Ab.S.guardG) | (apply Ab.K.aop; first | (first | (apply Ab.O.allocA (l := ec ⟨0, 0, 0⟩) M; (case hid => exact T.free (Nat.le_refl _)); (case hp => rfl)) | (apply Ab.O.storeAll; (case hz => rfl); (case hx => exact ev_); (case hy => exact ev_); (case hs => exact at_); (case hl => rfl); (case hc => rfl))) | (apply Og.s; constructor)) | (apply Ab.K.gk; first | (apply Xg.s; constructor) | (apply Ab.gY; case hw => assumption) | (apply Ab.gNT; case hw => assumption) | (apply Ab.gNF; case hw => assumption) | ((first | apply Ab.gD | apply Ab.gDN); all_goals (intro _ _; (first | contradiction | (exfalso; omega) | skip)))) | (apply Ab.K.aopsD; first | (apply Ab.D.q0t; (case hw => rfl); (case hot => rfl)) | (apply Ab.D.w1t; (case hw => rfl); (case hot => rfl)) | (apply Ab.D.q0; (case hw => rfl); intro _ _) | (apply Ab.D.w1n; (case hw => rfl); intro _ _) | (apply Ab.D.w2n; (case hw => rfl); intro _ _) | (apply Xg.s; constructor) | (apply Ab.D.guardU; (case hd => rfl); (case hb => (exact ev_; done))) | apply Ab.D.guardG) | exact ⟨rfl, rfl⟩ | (apply Ab.K.awp; first | (apply AWp.draw (id := 12) [[], [0], [], [], [2, 3], [2, 3, 4], [0, 1, 2, 3, 4, 5], [0, 1, 2, 3, 4, 5, 6], [0, 1, 2, 3, 4, 5, 6, 7], [0, 1, 2, 3, 4, 5, 6, 7, 8], [0, 1, 2, 3, 4, 5, 6, 7], [0, 1, 2, 3, 4, 5, 6, 7, 8, 9, 10], [0, 1, 2, 3, 4, 5, 6, 7, 8, 9, 10, 11], [0, 1, 2, 3, 4, 5, 6, 7, 8, 9, 10, 11, 12], [0, 1, 2, 3, 4, 5, 6, 7, 8, 9, 10, 11, 12, 13], [0, 1, 2, 3, 4, 5, 6, 7, 8, 9, 10, 11, 12, 13, 14], [0, 1, 2, 3, 4, 5, 6, 7, 8, 9, 10, 11, 12, 13], [0, 1, 2, 3, 4, 5, 6, 7, 8, 9, 10, 11, 12, 13], [0, 1, 2, 3, 4, 5, 6, 7, 8, 9, 10, 11, 12, 13, 16, 17], [0, 1, 2, 3, 4, 5, 6, 7, 8, 9, 10, 11, 12, 13, 16, 17, 18], [0, 1, 2, 3, 4, 5, 6, 7, 8, 9, 10, 11, 12, 13, 14, 15, 16, 17, 18, 19], [0, 1, 2, 3, 4, 5, 6, 7, 8, 9, 10, 11, 12, 13, 14, 15, 16, 17, 18, 19, 20], [0, 1, 2, 3, 4, 5, 6, 7, 8, 9, 10, 11, 12, 13, 14, 15, 16, 17, 18, 19, 20, 21], [0, 1, 2, 3, 4, 5, 6, 7, 8, 9, 10, 11, 12, 13, 14, 15, 16, 17, 18, 19, 20, 21, 22], [0, 1, 2, 3, 4, 5, 6, 7, 8, 9, 10, 11, 12, 13, 14, 15, 16, 17, 18, 19, 20, 21], [0, 1, 2, 3, 4, 5, 6, 7, 8, 9, 10, 11, 12, 13, 14, 15, 16, 17, 18, 19, 20, 21, 22, 23, 24], [0, 1, 2, 3, 4, 5, 6, 7, 8, 9, 10, 11, 12, 13, 14, 15, 16, 17, 18, 19, 20, 21, 22, 23, 24, 25], [0, 1, 2, 3, 4, 5, 6, 7, 8, 9, 10, 11, 12, 13, 14, 15, 16, 17, 18, 19, 20, 21, 22, 23, 24, 25, 26], [0, 1, 2, 3, 4, 5, 6, 7, 8, 9, 10, 11, 12, 13, 14, 15, 16, 17, 18, 19, 20, 21, 22, 23, 24, 25, 26, 27]] [] (by kernel_rfl) (by kernel_rfl) (by simp [apartW, unordB, cC] <;> omega)) | (apply Xg.s; constructor)) | (apply Ab.K.at_; exact at_) | (apply Ab.K.acall; first | assumption | fail) | (apply Ab.Rg.mk; omega) | (apply Ab.Lt.mk; first | decide | (simp; done) | (simp; omega) | first | (rw [ecs_length]; omega) | (show (0 + 3 : Nat) < 3 + 1; decide)) | (apply Ab.Get.mk; first | rfl | first | rfl | (rw [Int.toNat_natCast]; exact ga)) | (apply Ab.Nm.mk; first | first | exact Eq.trans (congrArg (fun z => List.take _ (List.drop (z * 3) (ecs l))) (Int.toNat_natCast c)) gE | exact (show ((ec e).drop 0).take 3 = ec e from rfl) | exact nrm_) | (apply Xg.s; constructor) | (apply Ab.asm; assumption) | rfl | infer_instance | decide))
            rw [← hs4]
            exact X.roundN (l.length - (c + 1)) (by omega) ⟨c + 1, k, M + 1, v, ov, r3, by exact ev_, by exact ev_, by exact ev_, by exact ev_, by exact ev_, by exact ev_, by exact ev_, by exact ev_, a64, a74, G4, hk, hr4, F4, T4, by omega, by omega, rfl⟩
        case pos =>
          have hvk : vk mk a ((j + 1 : Nat) : Int) e = some ⟨a, ((j + 1 : Nat) : Int), e.w, 1, decide (e ∈ mk)⟩ := by unfold vk; rw [if_pos hcond]
          have hc2 : (e.a = a ∧ e.b = ((j + 1 : Nat) : Int)) ∨ (¬ e.a = a ∧ e.b = a ∧ e.a = ((j + 1 : Nat) : Int)) := by omega
          have hr4 : r3 ++ [⟨a, ((j + 1 : Nat) : Int), e.w, 1, decide (e ∈ mk)⟩] = r2 ++ (l.take (c + 1)).filterMap (vk mk a ((j + 1 : Nat) : Int)) := by rw [hnext, hvk]; rfl
          have hN4 : At s4 q (.cells true 1 (ints nodes)) := At.var (F4 q (by simp) _ hN.eq)
          have hM4 : At s4 qm (.cells true 3 (ecs mk)) := At.var (F4 qm (by simp) _ hM.eq)
          rcases hc2 with ⟨h1, h2⟩ | ⟨h1, h2, h3⟩
          all_goals
            (repeat' ((fail_if_success (apply Ab.X.stopB (id := 13))); first | (apply Ab.K.ev; exact ev_) | (apply Ab.K.aops; first | (apply Xg.s; constructor) | (apply Ab.S.guardU; (case hd => rfl); (case hb => (exact ev_; done))) | apply Ab.S.guardG) | (apply Ab.K.aop; first | (first | (apply Ab.O.allocA (l := ec ⟨0, 0, 0⟩) M; (case hid => exact T.free (Nat.le_refl _)); (case hp => rfl)) | (apply Ab.O.storeAll; (case hz => rfl); (case hx => exact ev_); (case hy => exact ev_); (case hs => exact at_); (case hl => rfl); (case hc => rfl))) | (apply Og.s; constructor)) | (apply Ab.K.gk; first | (apply Xg.s; constructor) | (apply Ab.gY; case hw => assumption) | (apply Ab.gNT; case hw => assumption) | (apply Ab.gNF; case hw => assumption) | ((first | apply Ab.gD | apply Ab.gDN); all_goals (intro _ _; (first | contradiction | (exfalso; omega) | skip)))) | (apply Ab.K.aopsD; first | (apply Ab.D.q0t; (case hw => rfl); (case hot => rfl)) | (apply Ab.D.w1t; (case hw => rfl); (case hot => rfl)) | (apply Ab.D.q0; (case hw => rfl); intro _ _) | (apply Ab.D.w1n; (case hw => rfl); intro _ _) | (apply Ab.D.w2n; (case hw => rfl); intro _ _) | (apply Xg.s; constructor) | (apply Ab.D.guardU; (case hd => rfl); (case hb => (exact ev_; done))) | apply Ab.D.guardG) | exact ⟨rfl, rfl⟩ | (apply Ab.K.awp; first | (apply AWp.draw (id := 12) [[], [0], [], [], [2, 3], [2, 3, 4], [0, 1, 2, 3, 4, 5], [0, 1, 2, 3, 4, 5, 6], [0, 1, 2, 3, 4, 5, 6, 7], [0, 1, 2, 3, 4, 5, 6, 7, 8], [0, 1, 2, 3, 4, 5, 6, 7], [0, 1, 2, 3, 4, 5, 6, 7, 8, 9, 10], [0, 1, 2, 3, 4, 5, 6, 7, 8, 9, 10, 11], [0, 1, 2, 3, 4, 5, 6, 7, 8, 9, 10, 11, 12], [0, 1, 2, 3, 4, 5, 6, 7, 8, 9, 10, 11, 12, 13], [0, 1, 2, 3, 4, 5, 6, 7, 8, 9, 10, 11, 12, 13, 14], [0, 1, 2, 3, 4, 5, 6, 7, 8, 9, 10, 11, 12, 13], [0, 1, 2, 3, 4, 5, 6, 7, 8, 9, 10, 11, 12, 13], [0, 1, 2, 3, 4, 5, 6, 7, 8, 9, 10, 11, 12, 13, 16, 17], [0, 1, 2, 3, 4, 5, 6, 7, 8, 9, 10, 11, 12, 13, 16, 17, 18], [0, 1, 2, 3, 4, 5, 6, 7, 8, 9, 10, 11, 12, 13, 14, 15, 16, 17, 18, 19], [0, 1, 2, 3, 4, 5, 6, 7, 8, 9, 10, 11, 12, 13, 14, 15, 16, 17, 18, 19, 20], [0, 1, 2, 3, 4, 5, 6, 7, 8, 9, 10, 11, 12, 13, 14, 15, 16, 17, 18, 19, 20, 21], [0, 1, 2, 3, 4, 5, 6, 7, 8, 9, 10, 11, 12, 13, 14, 15, 16, 17, 18, 19, 20, 21, 22], [0, 1, 2, 3, 4, 5, 6, 7, 8, 9, 10, 11, 12, 13, 14, 15, 16, 17, 18, 19, 20, 21], [0, 1, 2, 3, 4, 5, 6, 7, 8, 9, 10, 11, 12, 13, 14, 15, 16, 17, 18, 19, 20, 21, 22, 23, 24], [0, 1, 2, 3, 4, 5, 6, 7, 8, 9, 10, 11, 12, 13, 14, 15, 16, 17, 18, 19, 20, 21, 22, 23, 24, 25], [0, 1, 2, 3, 4, 5, 6, 7, 8, 9, 10, 11, 12, 13, 14, 15, 16, 17, 18, 19, 20, 21, 22, 23, 24, 25, 26], [0, 1, 2, 3, 4, 5, 6, 7, 8, 9, 10, 11, 12, 13, 14, 15, 16, 17, 18, 19, 20, 21, 22, 23, 24, 25, 26, 27]] [] (by kernel_rfl) (by kernel_rfl) (by simp [apartW, unordB, cC] <;> omega)) | (apply Xg.s; constructor)) | (apply Ab.K.at_; exact at_) | (apply Ab.K.acall; first | assumption | fail) | (apply Ab.Rg.mk; omega) | (apply Ab.Lt.mk; first | decide | (simp; done) | (simp; omega) | first | (rw [ecs_length]; omega) | (show (0 + 3 : Nat) < 3 + 1; decide)) | (apply Ab.Get.mk; first | rfl | first | rfl | (rw [Int.toNat_natCast]; exact ga)) | (apply Ab.Nm.mk; first | first | exact Eq.trans (congrArg (fun z => List.take _ (List.drop (z * 3) (ecs l))) (Int.toNat_natCast c)) gE | exact (show ((ec e).drop 0).take 3 = ec e from rfl) | exact nrm_) | (apply Xg.s; constructor) | (apply Ab.asm; assumption) | rfl | infer_instance | decide))


            rw [← hs4]
            (repeat' (first | (apply Ab.K.ev; exact ev_) | (apply Ab.K.aops; first | (apply Xg.s; constructor) | (apply Ab.S.guardU; (case hd => rfl); (case hb => (exact ev_; done))) | apply Ab.S.guardG) | (apply Ab.K.aop; first | (apply Og.s; constructor)) | (apply Ab.K.gk; first | (apply Xg.s; constructor) | (apply Ab.gY; case hw => assumption) | (apply Ab.gNT; case hw => assumption) | (apply Ab.gNF; case hw => assumption) | ((first | apply Ab.gD | apply Ab.gDN); all_goals (intro _ _; (first | contradiction | (exfalso; omega) | skip)))) | (apply Ab.K.awp; first | (apply Xg.s; constructor)) | (apply Ab.K.at_; exact at_) | (apply Ab.K.acall; first | assumption | fail) | (apply Ab.Rg.mk; omega) | (apply Ab.Lt.mk; first | decide | (simp; done) | (simp; omega) | first | (rw [ecs_length]; omega) | (show (0 + 3 : Nat) < 3 + 1; decide)) | (apply Ab.Get.mk; first | rfl | first | rfl | (rw [Int.toNat_natCast]; exact ga)) | (apply Ab.Nm.mk; first | first | exact Eq.trans (congrArg (fun z => List.take _ (List.drop (z * 3) (ecs l))) (Int.toNat_natCast c)) gE | exact (show ((ec e).drop 0).take 3 = ec e from rfl) | exact nrm_) | (apply Xg.s; constructor) | (apply Ab.asm; assumption) | rfl | infer_instance | decide))
            refine AWp.loop (fun k4 tm s5 => ∃ x : Nat, Ev tm (.tmp 0) (.slice (some ⟨q, 0, none⟩) nodes.length nodes.length) ∧ Ev tm (.tmp 1) (.slice (some ⟨qe, 0, none⟩) l.length l.length) ∧ Ev tm (.tmp 2) (.slice (some ⟨qm, 0, none⟩) mk.length mk.length) ∧ Ev tm (.tmp 6) (.pointer (some ⟨N, 0, none⟩)) ∧ Ev tm (.tmp 7) (.pointer (some ⟨N + 1, 0, none⟩)) ∧ Ev tm (.tmp 8) (.int .i64 i) ∧ Ev tm (.tmp 9) (.int .i64 ((j + 1 : Nat) : Int)) ∧ Ev tm (.tmp 10) (.int .i64 c) ∧ Ev tm (.tmp 11) (.pointer (some ⟨M, 0, none⟩)) ∧ Ev tm (.tmp 12) (.bool (decide (e ∈ mk.take x))) ∧ Ev tm (.tmp 13) (.int .i64 x) ∧ s5 = s4 ∧ x ≤ mk.length ∧ k4 = mk.length - x) mk.length ?_ ?_
            · exact ⟨0, by exact ev_, by exact ev_, by exact ev_, by exact ev_, by exact ev_, by exact ev_, by exact ev_, by exact ev_, by exact ev_, by rw [show decide (e ∈ mk.take 0) = false from decide_eq_false (by simp)]; exact ev_, by exact ev_, rfl, by omega, rfl⟩
            clear e0 e1 e2 e6 e7 e8 e9 e10
            rintro k4 tm s5 ⟨x, e0, e1, e2, e6, e7, e8, e9, e10, e11, e12, e13, rfl, hx, hk4⟩
            by_cases hxn : x < mk.length
            · obtain ⟨f, hf⟩ : ∃ f, mk[x]? = some f := ⟨_, List.getElem?_eq_getElem hxn⟩
              have htkx : mk.take (x + 1) = mk.take x ++ [f] := by rw [List.take_add_one, hf]; rfl
              have gF := ecs_get hf
              have hfl := ecs_length mk
              have q1 : ∀ x y, ABin Try.prog .eql 43 x y (.agg (ec f).toArray) (.agg (ec e).toArray) (.bool (decide (f = e))) := fun x y => eq32


              by_cases hm2 : e ∈ mk.take x
              · have hm3 : e ∈ mk.take (x + 1) := by rw [htkx]; exact List.mem_append_left _ hm2
                rw [decide_eq_true hm2] at e12
                (repeat' (first | (apply Ab.K.ev; exact ev_) | (apply Ab.K.aops; first | (apply Xg.s; constructor) | (apply Ab.S.guardU; (case hd => rfl); (case hb => (exact ev_; done))) | apply Ab.S.guardG) | (apply Ab.K.aop; first | (apply Ab.O.bin; (case hx => exact ev_); (case hy => exact ev_); (case hv => exact q1 _ _)) | (apply Og.s; constructor)) | (apply Ab.K.gk; first | (apply Xg.s; constructor) | (apply Ab.gY; case hw => assumption) | (apply Ab.gNT; case hw => assumption) | (apply Ab.gNF; case hw => assumption) | ((first | apply Ab.gD | apply Ab.gDN); all_goals (intro _ _; (first | contradiction | (exfalso; omega) | skip)))) | (apply Ab.K.aopsD; first | (apply Ab.D.q0t; (case hw => rfl); (case hot => rfl)) | (apply Ab.D.w1t; (case hw => rfl); (case hot => rfl)) | (apply Ab.D.q0; (case hw => rfl); intro _ _) | (apply Ab.D.w1n; (case hw => rfl); intro _ _) | (apply Ab.D.w2n; (case hw => rfl); intro _ _) | (apply Xg.s; constructor) | (apply Ab.D.guardU; (case hd => rfl); (case hb => (exact ev_; done))) | apply Ab.D.guardG) | exact ⟨rfl, rfl⟩ | (apply Ab.K.awp; first | (apply AWp.draw (id := 17) [[], [0], [0, 1], [0, 1], [0, 1, 2, 3], [0, 1, 2, 3, 4], [0, 1], [0, 1, 2, 3, 4, 5, 6], [0, 1, 2, 3, 4, 5, 6, 7], [0, 1, 2, 3, 4, 5, 6, 7, 8]] [] (by kernel_rfl) (by kernel_rfl) (by simp [apartW, unordB, cC] <;> omega)) | (apply Xg.s; constructor)) | (apply Ab.K.at_; exact at_) | (apply Ab.K.acall; first | assumption | fail) | (apply Ab.Rg.mk; omega) | (apply Ab.Lt.mk; first | decide | (simp; done) | (simp; omega) | first | (rw [ecs_length]; omega) | (show (0 + 3 : Nat) < 3 + 1; decide)) | (apply Ab.Get.mk; first | rfl | first | rfl | (rw [Int.toNat_natCast]; exact ga)) | (apply Ab.Nm.mk; first | first | exact Eq.trans (congrArg (fun z => List.take _ (List.drop (z * 3) (ecs mk))) (Int.toNat_natCast x)) gF | exact (show ((ec e).drop 0).take 3 = ec e from rfl) | exact nrm_) | (apply Xg.s; constructor) | (apply Ab.asm; assumption) | rfl | infer_instance | decide))
                exact X.roundN (mk.length - (x + 1)) (by omega) ⟨x + 1, by exact ev_, by exact ev_, by exact ev_, by exact ev_, by exact ev_, by exact ev_, by exact ev_, by exact ev_, by exact ev_, by rw [decide_eq_true hm3]; exact ev_, by exact ev_, rfl, by omega, rfl⟩
              · have hm3 : decide (e ∈ mk.take (x + 1)) = decide (f = e) := by
                  rw [Bool.eq_iff_iff, decide_eq_true_iff, decide_eq_true_iff, htkx, List.mem_append, List.mem_singleton]
                  exact ⟨fun h => (h.resolve_left hm2).symm, fun h => .inr h.symm⟩
                rw [decide_eq_false hm2] at e12
                (repeat' (first | (apply Ab.K.ev; exact ev_) | (apply Ab.K.aops; first | (apply Xg.s; constructor) | (apply Ab.S.guardU; (case hd => rfl); (case hb => (exact ev_; done))) | apply Ab.S.guardG) | (apply Ab.K.aop; first | (apply Ab.O.bin; (case hx => exact ev_); (case hy => exact ev_); (case hv => exact q1 _ _)) | (apply Og.s; constructor)) | (apply Ab.K.gk; first | (apply Xg.s; constructor) | (apply Ab.gY; case hw => assumption) | (apply Ab.gNT; case hw => assumption) | (apply Ab.gNF; case hw => assumption) | ((first | apply Ab.gD | apply Ab.gDN); all_goals (intro _ _; (first | contradiction | (exfalso; omega) | skip)))) | (apply Ab.K.aopsD; first | (apply Ab.D.q0t; (case hw => rfl); (case hot => rfl)) | (apply Ab.D.w1t; (case hw => rfl); (case hot => rfl)) | (apply Ab.D.q0; (case hw => rfl); intro _ _) | (apply Ab.D.w1n; (case hw => rfl); intro _ _) | (apply Ab.D.w2n; (case hw => rfl); intro _ _) | (apply Xg.s; constructor) | (apply Ab.D.guardU; (case hd => rfl); (case hb => (exact ev_; done))) | apply Ab.D.guardG) | exact ⟨rfl, rfl⟩ | (apply Ab.K.awp; first | (apply AWp.draw (id := 17) [[], [0], [0, 1], [0, 1], [0, 1, 2, 3], [0, 1, 2, 3, 4], [0, 1], [0, 1, 2, 3, 4, 5, 6], [0, 1, 2, 3, 4, 5, 6, 7], [0, 1, 2, 3, 4, 5, 6, 7, 8]] [] (by kernel_rfl) (by kernel_rfl) (by simp [apartW, unordB, cC] <;> omega)) | (apply Xg.s; constructor)) | (apply Ab.K.at_; exact at_) | (apply Ab.K.acall; first | assumption | fail) | (apply Ab.Rg.mk; omega) | (apply Ab.Lt.mk; first | decide | (simp; done) | (simp; omega) | first | (rw [ecs_length]; omega) | (show (0 + 3 : Nat) < 3 + 1; decide)) | (apply Ab.Get.mk; first | rfl | first | rfl | (rw [Int.toNat_natCast]; exact ga)) | (apply Ab.Nm.mk; first | first | exact Eq.trans (congrArg (fun z => List.take _ (List.drop (z * 3) (ecs mk))) (Int.toNat_natCast x)) gF | exact (show ((ec e).drop 0).take 3 = ec e from rfl) | exact nrm_) | (apply Xg.s; constructor) | (apply Ab.asm; assumption) | rfl | infer_instance | decide))
                exact X.roundN (mk.length - (x + 1)) (by omega) ⟨x + 1, by exact ev_, by exact ev_, by exact ev_, by exact ev_, by exact ev_, by exact ev_, by exact ev_, by exact ev_, by exact ev_, by rw [hm3]; exact ev_, by exact ev_, rfl, by omega, rfl⟩
            · have hxe : x = mk.length := by omega
              rw [hxe, List.take_length] at e12
              obtain ⟨y, hy⟩ : ∃ y : Kn, y = ⟨a, ((j + 1 : Nat) : Int), e.w, 1, decide (e ∈ mk)⟩ := ⟨_, rfl⟩
              rw [← hy] at hr4
              have hky : kc y = [.int .i64 a, .int .i64 ((j + 1 : Nat) : Int), .int .i64 e.w, .int .i64 1, .bool (decide (e ∈ mk))] := by rw [hy]; rfl
              have hkl := kcs_length r3
              have hpa : kcs r3 ++ kc y = kcs (r3 ++ [y]) := by rw [kcs_append]; simp [kcs]
              rcases Gr_cases G4 with ⟨rfl, rfl, hk0, hr0⟩ | ⟨q', rfl, rfl, hq', hlq, hqN'⟩
              · have hr30 : r3 = [] := List.length_eq_zero_iff.1 (hk.symm.trans hk0)

                (repeat' (first | (apply Ab.K.ev; exact ev_) | (apply Ab.K.aops; first | (apply Xg.s; constructor) | (apply Ab.S.guardU; (case hd => rfl); (case hb => (exact ev_; done))) | apply Ab.S.guardG) | (apply Ab.K.aop; first | (first | (apply Ab.O.build1A (l := kc y) (M + 1); (case hx => rw [hky]; exact ev_); (case hl => rfl); (case hz => exact ⟨rfl, rfl⟩); (case hes => decide); (case hid => exact free_)) | (apply Ab.O.appendNil (M + 2) (m := 1) (xs := kc y); (case hx => exact ev_); (case hy => exact ev_); (case hs => exact srcAll (by exact at_) rfl); (case hk => rfl); (case hm => decide); (case hl => rfl); (case hz => decide); (case hb => decide); (case hid => exact free_))) | (apply Og.s; constructor)) | (apply Ab.K.gk; first | (apply Xg.s; constructor) | (apply Ab.gY; case hw => assumption) | (apply Ab.gNT; case hw => assumption) | (apply Ab.gNF; case hw => assumption) | ((first | apply Ab.gD | apply Ab.gDN); all_goals (intro _ _; (first | contradiction | (exfalso; omega) | skip)))) | (apply Ab.K.aopsD; first | (apply Ab.D.q0t; (case hw => rfl); (case hot => rfl)) | (apply Ab.D.w1t; (case hw => rfl); (case hot => rfl)) | (apply Ab.D.q0; (case hw => rfl); intro _ _) | (apply Ab.D.w1n; (case hw => rfl); intro _ _) | (apply Ab.D.w2n; (case hw => rfl); intro _ _) | (apply Xg.s; constructor) | (apply Ab.D.guardU; (case hd => rfl); (case hb => (exact ev_; done))) | apply Ab.D.guardG) | exact ⟨rfl, rfl⟩ | (apply Ab.K.awp; first | (apply AWp.draw (id := 18) [[], [0], [], [], [2, 3], [2, 3, 4], [], [], [7], [], [2, 3, 4, 5, 6, 7, 8, 9], [2, 3, 4, 5, 6, 7, 8, 9, 10], [0, 1, 2, 3, 4, 5, 6, 7, 8, 9, 10, 11], [0, 1, 2, 3, 4, 5, 6, 7, 8, 9, 10, 11, 12], [0, 1, 2, 3, 4, 5, 6, 7, 8, 9, 10, 11, 12, 13]] [(11, [M + 1]), (12, [M + 2]), (14, [N + 1])] (by kernel_rfl) (by kernel_rfl) (by simp [apartW, unordB, cC] <;> omega)) | (apply Xg.s; constructor)) | (apply Ab.K.at_; exact at_) | (apply Ab.K.acall; first | assumption | fail) | (apply Ab.Rg.mk; omega) | (apply Ab.Lt.mk; first | decide | (simp; done) | (simp; omega) | first | (rw [ecs_length]; omega) | (show (0 + 3 : Nat) < 3 + 1; decide)) | (apply Ab.Get.mk; first | rfl | first | rfl | (rw [Int.toNat_natCast]; exact ga)) | (apply Ab.Nm.mk; first | first | exact Eq.trans (congrArg (fun z => List.take _ (List.drop (z * 3) (ecs mk))) (Int.toNat_natCast x)) gF | exact (show ((ec e).drop 0).take 3 = ec e from rfl) | exact nrm_) | (apply Xg.s; constructor) | (apply Ab.asm; assumption) | rfl | infer_instance | decide))
                refine X.roundN (l.length - (c + 1)) (by omega) ⟨c + 1, k + 1, M + 3, .slice (some ⟨M + 2, 0, none⟩) (k + 1) (k + 1), some (M + 2), r3 ++ [y], by exact ev_, by exact ev_, by exact ev_, by exact ev_, by exact ev_, by exact ev_, by exact ev_, by exact ev_, by exact at_, ?_, Gr.new ?_ (by rw [kcs_length, List.length_append, hk]; rfl) (by omega), by rw [List.length_append, hk]; rfl, hr4, fun i hi c hc => ?_, ?_, by omega, by omega, rfl⟩
                · rw [hk0]; exact At.hit
                · rw [hr30]; exact At.miss (by omega) (by rw [show kcs ([] ++ [y]) = kc y from by simp [kcs]]; exact At.hit)
                · have := hT.lt (At.var hc)
                  rw [AHeap.set_other _ _ (by omega), AHeap.set_other _ _ (by omega), AHeap.set_other _ _ (by omega)]; exact F4 i hi c hc
                · exact ((T4.new).new).set (by omega)
              · have hqM' : q' < M := hlt q' rfl
                have hq5 : At s5 q' (.cells true 5 (kcs r3)) := hq'

                (repeat' (first | (apply Ab.K.ev; exact ev_) | (apply Ab.K.aops; first | (apply Xg.s; constructor) | (apply Ab.S.guardU; (case hd => rfl); (case hb => (exact ev_; done))) | apply Ab.S.guardG) | (apply Ab.K.aop; first | (first | (apply Ab.O.build1A (l := kc y) (M + 1); (case hx => rw [hky]; exact ev_); (case hl => rfl); (case hz => exact ⟨rfl, rfl⟩); (case hes => decide); (case hid => exact free_)) | (apply Ab.O.appendMove (M + 2) (m := 1) (xs := kc y) (old := kcs r3); (case hx => exact ev_); (case hy => exact ev_); (case hs => exact srcAll (by exact at_) rfl); (case ha => exact at_); (case hk => rfl); (case hm => decide); (case hr => omega); (case hl => rfl); (case hz => decide); (case hb => omega); (case hid => exact free_); (case ho => rw [hlq]; omega); (case hold => (rw [List.drop_zero, List.take_of_length_le (by rw [hlq]; omega)])))) | (apply Og.s; constructor)) | (apply Ab.K.gk; first | (apply Xg.s; constructor) | (apply Ab.gY; case hw => assumption) | (apply Ab.gNT; case hw => assumption) | (apply Ab.gNF; case hw => assumption) | ((first | apply Ab.gD | apply Ab.gDN); all_goals (intro _ _; (first | contradiction | (exfalso; omega) | skip)))) | (apply Ab.K.aopsD; first | (apply Ab.D.q0t; (case hw => rfl); (case hot => rfl)) | (apply Ab.D.w1t; (case hw => rfl); (case hot => rfl)) | (apply Ab.D.q0; (case hw => rfl); intro _ _) | (apply Ab.D.w1n; (case hw => rfl); intro _ _) | (apply Ab.D.w2n; (case hw => rfl); intro _ _) | (apply Xg.s; constructor) | (apply Ab.D.guardU; (case hd => rfl); (case hb => (exact ev_; done))) | apply Ab.D.guardG) | exact ⟨rfl, rfl⟩ | (apply Ab.K.awp; first | (apply AWp.draw (id := 18) [[], [0], [], [], [2, 3], [2, 3, 4], [], [], [7], [], [2, 3, 4, 5, 6, 7, 8, 9], [2, 3, 4, 5, 6, 7, 8, 9, 10], [0, 1, 2, 3, 4, 5, 6, 7, 8, 9, 10, 11], [0, 1, 2, 3, 4, 5, 6, 7, 8, 9, 10, 11, 12], [0, 1, 2, 3, 4, 5, 6, 7, 8, 9, 10, 11, 12, 13]] [(11, [M + 1]), (12, [q', M + 2]), (14, [N + 1])] (by kernel_rfl) (by kernel_rfl) (by simp [apartW, unordB, cC] <;> omega)) | (apply Xg.s; constructor)) | (apply Ab.K.at_; exact at_) | (apply Ab.K.acall; first | assumption | fail) | (apply Ab.Rg.mk; omega) | (apply Ab.Lt.mk; first | decide | (simp; done) | (simp; omega) | first | (rw [ecs_length]; omega) | (show (0 + 3 : Nat) < 3 + 1; decide)) | (apply Ab.Get.mk; first | rfl | first | rfl | (rw [Int.toNat_natCast]; exact ga)) | (apply Ab.Nm.mk; first | first | exact Eq.trans (congrArg (fun z => List.take _ (List.drop (z * 3) (ecs mk))) (Int.toNat_natCast x)) gF | exact (show ((ec e).drop 0).take 3 = ec e from rfl) | exact nrm_) | (apply Xg.s; constructor) | (apply Ab.asm; assumption) | rfl | infer_instance | decide))
                rw [hpa]
                refine X.roundN (l.length - (c + 1)) (by omega) ⟨c + 1, k + 1, M + 3, .slice (some ⟨M + 2, 0, none⟩) (k + 1) (k + 1), some (M + 2), r3 ++ [y], by exact ev_, by exact ev_, by exact ev_, by exact ev_, by exact ev_, by exact ev_, by exact ev_, by exact ev_, by exact at_, ?_, Gr.new ?_ (by rw [kcs_length, List.length_append, hk]; rfl) (by omega), by rw [List.length_append, hk]; rfl, hr4, fun i hi c hc => ?_, ?_, by omega, by omega, rfl⟩
                · exact At.hit
                · exact At.miss (by omega) At.hit
                · have := hT.lt (At.var hc)
                  rw [AHeap.set_other _ _ (by omega), AHeap.set_other _ _ (by omega), AHeap.set_other _ _ (by omega), AHeap.set_other _ _ (by omega)]; exact F4 i hi c hc
                · exact (((T4.new).set (by omega)).new).set (by omega)
      · have hce : c = l.length := by omega
        have hr3' : r3 = r ++ vrow l mk a (j + 1) := by rw [hr3, hr2, hce, List.take_length, vrow_succ, List.append_assoc]
        (repeat' (first | (apply Ab.K.ev; exact ev_) | (apply Ab.K.aops; first | (apply Xg.s; constructor) | (apply Ab.S.guardU; (case hd => rfl); (case hb => (exact ev_; done))) | apply Ab.S.guardG) | (apply Ab.K.aop; first | (first | (apply Ab.O.build1A (l := kc y) (M + 1); (case hx => rw [hky]; exact ev_); (case hl => rfl); (case hz => exact ⟨rfl, rfl⟩); (case hes => decide); (case hid => exact free_)) | (apply Ab.O.appendMove (M + 2) (m := 1) (xs := kc y) (old := kcs r3); (case hx => exact ev_); (case hy => exact ev_); (case hs => exact srcAll (by exact at_) rfl); (case ha => exact at_); (case hk => rfl); (case hm => decide); (case hr => omega); (case hl => rfl); (case hz => decide); (case hb => omega); (case hid => exact free_); (case ho => rw [hlq]; omega); (case hold => (rw [List.drop_zero, List.take_of_length_le (by rw [hlq]; omega)])))) | (apply Og.s; constructor)) | (apply Ab.K.gk; first | (apply Xg.s; constructor) | (apply Ab.gY; case hw => assumption) | (apply Ab.gNT; case hw => assumption) | (apply Ab.gNF; case hw => assumption) | ((first | apply Ab.gD | apply Ab.gDN); all_goals (intro _ _; (first | contradiction | (exfalso; omega) | skip)))) | (apply Ab.K.awp; first | (apply Xg.s; constructor)) | (apply Ab.K.at_; exact at_) | (apply Ab.K.acall; first | assumption | fail) | (apply Ab.Rg.mk; omega) | (apply Ab.Lt.mk; first | decide | (simp; done) | (simp; omega) | first | (rw [ecs_length]; omega) | (show (0 + 3 : Nat) < 3 + 1; decide)) | (apply Ab.Get.mk; first | rfl | first | rfl | (rw [Int.toNat_natCast]; exact ga)) | (apply Ab.Nm.mk; first | first | exact Eq.trans (congrArg (fun z => List.take _ (List.drop (z * 3) (ecs mk))) (Int.toNat_natCast x)) gF | exact (show ((ec e).drop 0).take 3 = ec e from rfl) | exact nrm_) | (apply Xg.s; constructor) | (apply Ab.asm; assumption) | rfl | infer_instance | decide))
        exact X.roundN (64 - (j + 1)) (by omega) ⟨j + 1, k, M, v, ov, r3, by exact ev_, by exact ev_, by exact ev_, by exact ev_, by exact ev_, by exact ev_, by exact ev_, a6, a7, G, hk, hr3', F, T, hMM, by omega, rfl⟩
    · obtain rfl : j = 64 := by omega
      rw [← hfin] at hr2
      (repeat' (first | (apply Ab.K.ev; exact ev_) | (apply Ab.K.aops; first | (apply Xg.s; constructor) | (apply Ab.S.guardU; (case hd => rfl); (case hb => (exact ev_; done))) | apply Ab.S.guardG) | (apply Ab.K.aop; first | (first | (apply Ab.O.build1A (l := kc y) (M + 1); (case hx => rw [hky]; exact ev_); (case hl => rfl); (case hz => exact ⟨rfl, rfl⟩); (case hes => decide); (case hid => exact free_)) | (apply Ab.O.appendMove (M + 2) (m := 1) (xs := kc y) (old := kcs r3); (case hx => exact ev_); (case hy => exact ev_); (case hs => exact srcAll (by exact at_) rfl); (case ha => exact at_); (case hk => rfl); (case hm => decide); (case hr => omega); (case hl => rfl); (case hz => decide); (case hb => omega); (case hid => exact free_); (case ho => rw [hlq]; omega); (case hold => (rw [List.drop_zero, List.take_of_length_le (by rw [hlq]; omega)])))) | (apply Og.s; constructor)) | (apply Ab.K.gk; first | (apply Xg.s; constructor) | (apply Ab.gY; case hw => assumption) | (apply Ab.gNT; case hw => assumption) | (apply Ab.gNF; case hw => assumption) | ((first | apply Ab.gD | apply Ab.gDN); all_goals (intro _ _; (first | contradiction | (exfalso; omega) | skip)))) | (apply Ab.K.awp; first | (apply Xg.s; constructor)) | (apply Ab.K.at_; exact at_) | (apply Ab.K.acall; first | assumption | fail) | (apply Ab.Rg.mk; omega) | (apply Ab.Lt.mk; first | decide | (simp; done) | (simp; omega) | first | (rw [ecs_length]; omega) | (show (0 + 3 : Nat) < 3 + 1; decide)) | (apply Ab.Get.mk; first | rfl | first | rfl | (rw [Int.toNat_natCast]; exact ga)) | (apply Ab.Nm.mk; first | first | exact Eq.trans (congrArg (fun z => List.take _ (List.drop (z * 3) (ecs mk))) (Int.toNat_natCast x)) gF | exact (show ((ec e).drop 0).take 3 = ec e from rfl) | exact nrm_) | (apply Xg.s; constructor) | (apply Ab.asm; assumption) | rfl | infer_instance | decide))
      exact X.roundN (nodes.length - (i + 1)) (by omega) ⟨i + 1, k, M, v, ov, r2, by exact ev_, by exact ev_, by exact ev_, by exact ev_, by exact ev_, by exact ev_, a6, a7, G, hk, hr2, F, T, hMM, by omega, rfl⟩
  · have hie : i = nodes.length := by omega
    rw [hie, List.take_length] at hr
    have hk0 : k ≠ 0 := fun h => hpos (by rw [← hr]; exact List.length_eq_zero_iff.1 (hk.symm.trans h))
    obtain ⟨u, rfl, rfl, au, hlu, hu⟩ := G.own hk0
    have huM := T.lt au

    (repeat' (first | (apply Ab.K.ev; exact ev_) | (apply Ab.K.aops; first | (apply Xg.s; constructor) | (apply Ab.S.guardU; (case hd => rfl); (case hb => (exact ev_; done))) | apply Ab.S.guardG) | (apply Ab.K.aop; first | (apply Ab.O.storeAll; (case hz => rfl); (case hx => exact ev_); (case hy => exact ev_); (case hs => exact at_); (case hl => rfl); (case hc => rfl)) | (apply Og.s; constructor)) | (apply Ab.K.gk; first | (apply Xg.s; constructor) | (apply Ab.gY; case hw => assumption) | (apply Ab.gNT; case hw => assumption) | (apply Ab.gNF; case hw => assumption) | ((first | apply Ab.gD | apply Ab.gDN); all_goals (intro _ _; (first | contradiction | (exfalso; omega) | skip)))) | (apply Ab.K.awp; first | (apply Xg.s; constructor)) | (apply Ab.K.at_; exact at_) | (apply Ab.K.acall; first | assumption | fail) | (apply Ab.Rg.mk; omega) | (apply Ab.Lt.mk; first | decide | (simp; done) | (simp; omega) | first | (rw [ecs_length]; omega) | (show (0 + 3 : Nat) < 3 + 1; decide)) | (apply Ab.Get.mk; first | rfl | first | rfl | (rw [Int.toNat_natCast]; exact ga)) | (apply Ab.Nm.mk; first | exact (show (([.slice (some ⟨q, 0, none⟩) nodes.length nodes.length, .slice (some ⟨u, 0, none⟩) k k] : List Value).drop 0).take 2 = [.slice (some ⟨q, 0, none⟩) nodes.length nodes.length, .slice (some ⟨u, 0, none⟩) k k] from rfl) | exact nrm_) | (apply Xg.s; constructor) | (apply Ab.asm; assumption) | rfl | infer_instance | decide))
    all_goals ((first | apply RetE.ret | apply RetE.normal); (case he => exact evr_); (case hg => rfl))
    · exact ⟨u, by rw [← hr, ← hk]; rfl, hT.none (by omega), by rw [← hr]⟩
    · refine Keeps.upd [(u, _)] (fun i hi c hc => ?_) ⟨⟨At.miss (by omega) au, nm_scal (kcs_pl _)⟩, trivial⟩ ?_
      · have := hT.lt (At.var hc)
        rw [AHeap.set_other _ _ (by omega)]; exact F i (by simp) c hc
      · intro x hx
        simp only [List.mem_toArray, List.mem_cons, List.not_mem_nil, or_false] at hx
        rcases hx with rfl | rfl
        · exact updH_some (.inl (by rw [hN.eq]; rfl))
        · exact updH_some (.inr (by simp))
end Go.Proofs.Ytdbnpghckgmaoaa

/- routes: views that come in, the small question; leaders, plain. -/
namespace Go.Proofs.Ytdbnpghckgmaoaa
set_option linter.unusedVariables false
set_option linter.unusedSimpArgs false
set_option linter.unusedSectionVars false
open Go.RowKit Go.WideShapes Ab TP VP
theorem lkN_sorted {f : Nat → Bool} : ∀ {k : Nat}, (lkN f k).Pairwise (· < ·)
  | 0 => List.Pairwise.nil
  | k + 1 => by
    rw [lkN, List.pairwise_append]
    refine ⟨lkN_sorted, ?_, fun x hx y hy => ?_⟩
    · split <;> simp
    · have := (lkN_mem.1 hx).2.1
      split at hy
      · rw [List.mem_singleton] at hy; omega
      · cases hy
/-- The first of a list that rises is its least. -/
theorem head_le {l : List Int} (h : l.Pairwise (· < ·)) {x : Int} (hx : x ∈ l) : l.headD 0 ≤ x := by
  match l, h, hx with
  | y :: t, h, hx =>
    rcases List.mem_cons.1 hx with rfl | hx
    · exact Int.le_refl _
    · exact Int.le_of_lt ((List.pairwise_cons.1 h).1 x hx)
theorem head_mem {l : List Int} {x : Int} (hx : x ∈ l) : l.headD 0 ∈ l := by
  match l, hx with
  | y :: t, _ => simp
theorem side_conn {l : List E} {a b : Int} (ha : TP.Node a) (hb : TP.Node b) (h : Conn l a b) : side l a = side l b := by
  unfold side
  refine lkN_congr fun i _ _ => ?_
  rw [Bool.eq_iff_iff, reachB_iff, reachB_iff]
  exact ⟨fun k => ⟨hb, h.symm.trans k.2⟩, fun k => ⟨ha, h.trans k.2⟩⟩
theorem lead_iff {l : List E} (hg : TP.Good l) {a b : Int} (ha : TP.Node a) (hb : TP.Node b) : (side l a).headD 0 = (side l b).headD 0 ↔ Conn l a b := by
  constructor
  · intro h
    have h1 := head_mem ((side_mem (Good.node hg) ha (x := a)).2 (.refl a))
    have h2 := head_mem ((side_mem (Good.node hg) hb (x := b)).2 (.refl b))
    rw [h] at h1
    exact ((side_mem (Good.node hg) ha).1 h1).trans ((side_mem (Good.node hg) hb).1 h2).symm
  · intro h; rw [side_conn ha hb h]
theorem vl_el : vlinks [1, 2, 3] [e1, e2] [e1, e2] = [⟨1, 2, 0, 1, true⟩, ⟨2, 1, 0, 1, true⟩, ⟨2, 3, 0, 1, true⟩, ⟨3, 2, 0, 1, true⟩] := by decide +kernel
abbrev vl : List Kn := [⟨1, 2, 0, 1, true⟩, ⟨2, 1, 0, 1, true⟩, ⟨2, 3, 0, 1, true⟩, ⟨3, 2, 0, 1, true⟩]
theorem vl_bnd : bnd vl = [e1, e2] := by decide +kernel
theorem vl_may : MayV [1, 2, 3] vl := ⟨⟨by decide, by decide⟩, by decide, by decide⟩
theorem vl_chk : chk [1, 2, 3] vl 3 = 0 := chk_of vl_may (by decide) (by rw [vl_bnd]; exact el_forest) (by decide)
theorem vl_hopE : hopE [1, 2, 3] vl 3 1 = 0 := hop_ok.2 ⟨by decide, vl_chk, by rw [vl_bnd]; exact lkB_iff.2 ⟨by decide, by decide, el_way.conn⟩⟩
theorem vl_hopV : hopV [1, 2, 3] vl 3 1 = 2 := by
  rw [hopV_ok vl_hopE, vl_bnd]
  have h := nxt_eq (el_forest.cut el_good.2.nodup) el_way
  exact (Option.some.inj h).symm
theorem vl_ldr : ldr [1, 2, 3] vl 3 = 1 := by
  rw [ldr_ok vl_chk, vl_bnd]
  have hm := (side_mem (Good.node el_good) (show TP.Node 3 by decide) (x := 1)).2 el_way.conn
  have h1 := head_le (lkN_sorted (f := reachB [e1, e2] 3) (k := 64)) hm
  have h2 := (lkN_mem.1 (head_mem hm)).1
  exact Int.le_antisymm h1 h2
/-! ### what comes in -/
theorem list5k {l : List Value} (h : l.length = 5) : ∃ a b c d e, l = [a, b, c, d, e] := by
  match l, h with
  | [a, b, c, d, e], _ => exact ⟨a, b, c, d, e, rfl⟩
theorem flatKn {w : World} : Flat Try.prog w 56 (fun k : Kn => kc k) (fun _ => True) := by
  intro H enc base spare held fuel cs y h
  obtain ⟨a, b, c, d, e, rfl⟩ := list5k (fld_len Try.underlying56 h (by kernel_rfl))
  obtain ⟨n0, e0, _⟩ := fld_int Try.underlying56 h 0 rfl (by kernel_rfl) Try.underlying3
  obtain ⟨n1, e1, _⟩ := fld_int Try.underlying56 h 1 rfl (by kernel_rfl) Try.underlying3
  obtain ⟨n2, e2, _⟩ := fld_int Try.underlying56 h 2 rfl (by kernel_rfl) Try.underlying3
  obtain ⟨n3, e3, _⟩ := fld_int Try.underlying56 h 3 rfl (by kernel_rfl) Try.underlying3
  obtain ⟨n4, e4⟩ := fld_bool Try.underlying56 h 4 rfl (by kernel_rfl) Try.underlying4
  simp at e0 e1 e2 e3 e4
  subst e0; subst e1; subst e2; subst e3; subst e4
  exact ⟨⟨n0, n1, n2, n3, n4⟩, rfl, trivial⟩
theorem flat_ints (l : List Int) : (l.flatMap fun n => [Value.int .i64 n]) = ints l := by
  induction l with
  | nil => rfl
  | cons a l ih => rw [List.flatMap_cons, ih]; rfl
theorem view_in {W : World} {base : Nat} {H : Type} {enc : TypeId × Value → H} {b0 : Nat} {sp : Nat → Bool} {held : Bool} {v : Value} {d : DataW H} {ps : List MemPlace} (hv : Value.okWide Try.prog W .any base 25 v)
    (h : DataW.Trod enc Try.prog W b0 sp held 25 v d ps) {L : List (Ab.Loc × List Value)} (hL : Okl W L) :
    ∃ L1 A B n c m dd on ol nodes K, Okl W (L ++ L1) ∧ VR (roR (L ++ L1)) (.agg #[.slice A n c, .slice B m dd]) v ∧ NA (roH (L ++ L1)) (.slice A n c) on nodes ∧ KA (roH (L ++ L1)) (.slice B m dd) ol K := by
  obtain ⟨fuel, ht⟩ := h
  unfold Value.okWide at hv
  rw [Try.underlying25] at hv
  obtain ⟨cs, rfl, hsz, ts, hts, _, hcell⟩ := hv
  have h31 : Try.prog.cellTypes Try.prog.depth 25 = some [22, 23] := by kernel_rfl
  rw [h31] at hts
  obtain rfl := Option.some.inj hts
  have ht' : DataW.trod enc Try.prog W b0 sp held fuel 25 cs.toList = some (d, ps) := ht
  have h2 : cs.toList.length = 2 := fld_len Try.underlying25 ht' (by kernel_rfl)
  obtain ⟨a, b, hcs⟩ : ∃ a b, cs.toList = [a, b] := by
    match cs.toList, h2 with
    | [a, b], _ => exact ⟨a, b, rfl⟩
  obtain rfl : cs = [a, b].toArray := by apply Array.ext'; simpa using hcs
  obtain ⟨_, _, hN⟩ := fld Try.underlying25 ht' 0 rfl (m := 1) (by kernel_rfl)
  obtain ⟨_, _, hK⟩ := fld Try.underlying25 ht' 1 rfl (m := 1) (by kernel_rfl)
  obtain ⟨u3, hu3, ok3⟩ := hcell 0 a rfl
  obtain ⟨u4, hu4, ok4⟩ := hcell 1 b rfl
  obtain rfl := Option.some.inj hu3
  obtain rfl := Option.some.inj hu4
  obtain ⟨L1, v1, xs, hL1, hv1, _, hx1⟩ := slice_in (m := 1) Try.underlying22 (by kernel_rfl) (fun x _ => rfl) (fun x _ => rfl) (flat_int Try.underlying3) ok3 hN hL
  obtain ⟨L2, v2, ys, hL2, hv2, _, hx2⟩ := slice_in (m := 5) Try.underlying23 (by kernel_rfl) (fun x _ => rfl) (fun x _ => rfl) flatKn ok4 hK hL1
  rw [List.append_assoc] at hL2 hv2 hx2
  have hle := roR_le (L ++ L1) L2
  rw [List.append_assoc] at hle
  have hlh : ∀ i b, roH (L ++ L1) i = some b → roH (L ++ (L1 ++ L2)) i = some b := fun i b h => by
    have := roH_le (L1 := L2) i b h; rwa [List.append_assoc] at this
  have hna : ∃ A n c on, v1 = .slice A n c ∧ NA (roH (L ++ (L1 ++ L2))) (.slice A n c) on xs := by
    rcases hx1 with ⟨rfl, rfl⟩ | ⟨o, c, rfl, hc, ha⟩
    · exact ⟨none, 0, 0, none, rfl, .nil⟩
    · refine ⟨_, _, c, some o, rfl, .blk (At.var (hlh _ _ ha.eq)) hc ?_⟩
      rw [flat_ints, ← ints_length]; exact List.take_length
  have hka : ∃ B m dd ol, v2 = .slice B m dd ∧ KA (roH (L ++ (L1 ++ L2))) (.slice B m dd) ol ys := by
    rcases hx2 with ⟨rfl, rfl⟩ | ⟨o, c, rfl, hc, ha⟩
    · exact ⟨none, 0, 0, none, rfl, .nil⟩
    · refine ⟨_, _, c, some o, rfl, .blk ha hc ?_⟩
      rw [← kcs_length]; exact List.take_length
  obtain ⟨A, n, c, on, rfl, hA⟩ := hna
  obtain ⟨B, m, dd, ol, rfl, hB⟩ := hka
  exact ⟨L1 ++ L2, A, B, n, c, m, dd, on, ol, xs, ys, hL2, .v (.agg (.cons (.a (hv1.mono hle)) (.cons (.a hv2) .nil))), hA, hB⟩
attribute [local irreducible] AOps AOpsD AOp AWp put nargs AHeap.set At Free ACall ACallE thenQ blockQ roundQ RetQ RetE Src Gr side lkN chk hopE hopV ldr nxt VP.bnd inn mvB reachB lkB foB tblN vlinks

def lightB (n m : Nat) : Bool := decide (n ≤ 70) && decide (m ≤ 60)
theorem lightL {s : AHeap} {A B : Option Addr} {n c m d : Nat} : ACall Try.prog 8 [.agg #[.slice A n c, .slice B m d]] s (.bool (lightB n m)) s := by
  unfold lightB
  refine ACall.make Try.func8 rfl (by kernel_rfl) (by decide) rfl (fun N hN0 => ?_)
  have hT : Top N s := hN0
  by_cases h1 : (n : Int) ≤ 70
  · rw [decide_eq_true (show n ≤ 70 by omega), Bool.true_and]
    by_cases h2 : (m : Int) ≤ 60
    · rw [decide_eq_true (show m ≤ 60 by omega)]
      (repeat' (first | (apply Ab.K.ev; exact ev_) | (apply Ab.K.aops; first | (apply Xg.s; constructor) | (apply Ab.S.guardU; (case hd => rfl); (case hb => (exact ev_; done))) | apply Ab.S.guardG) | (apply Ab.K.aop; first | (apply Ab.O.boxA (l := [.slice A n c, .slice B m d]) N; (case hx => exact ev_); (case hid => exact hT.free (Nat.le_refl _))) | (apply Og.s; constructor)) | (apply Ab.K.gk; first | (apply Xg.s; constructor) | (apply Ab.gY; case hw => assumption) | (apply Ab.gNT; case hw => assumption) | (apply Ab.gNF; case hw => assumption) | ((first | apply Ab.gD | apply Ab.gDN); all_goals (intro _ _; (first | contradiction | (exfalso; omega) | skip)))) | (apply Ab.K.awp; first | (apply Xg.s; constructor)) | (apply Ab.K.at_; exact at_) | (apply Ab.K.acall; first | assumption | fail) | (apply Ab.Rg.mk; omega) | (apply Ab.Lt.mk; first | decide | (simp; done) | (simp; omega) | fail) | (apply Ab.Get.mk; first | rfl | rfl) | (apply Ab.Nm.mk; first | exact nrm_) | (apply Xg.s; constructor) | (apply Ab.asm; assumption) | rfl | infer_instance | decide))
      all_goals ((first | apply RetQ.ret | apply RetQ.normal); (case he => exact evr_); (case hg => rfl))
      all_goals first | (simp [resV, h2]; done) | rfl | (apply Keeps.fr; (case h => exact fr_); (case hv => exact plR.nm rfl))
    · rw [decide_eq_false (show ¬ m ≤ 60 by omega)]
      (repeat' (first | (apply Ab.K.ev; exact ev_) | (apply Ab.K.aops; first | (apply Xg.s; constructor) | (apply Ab.S.guardU; (case hd => rfl); (case hb => (exact ev_; done))) | apply Ab.S.guardG) | (apply Ab.K.aop; first | (apply Ab.O.boxA (l := [.slice A n c, .slice B m d]) N; (case hx => exact ev_); (case hid => exact hT.free (Nat.le_refl _))) | (apply Og.s; constructor)) | (apply Ab.K.gk; first | (apply Xg.s; constructor) | (apply Ab.gY; case hw => assumption) | (apply Ab.gNT; case hw => assumption) | (apply Ab.gNF; case hw => assumption) | ((first | apply Ab.gD | apply Ab.gDN); all_goals (intro _ _; (first | contradiction | (exfalso; omega) | skip)))) | (apply Ab.K.awp; first | (apply Xg.s; constructor)) | (apply Ab.K.at_; exact at_) | (apply Ab.K.acall; first | assumption | fail) | (apply Ab.Rg.mk; omega) | (apply Ab.Lt.mk; first | decide | (simp; done) | (simp; omega) | fail) | (apply Ab.Get.mk; first | rfl | rfl) | (apply Ab.Nm.mk; first | exact nrm_) | (apply Xg.s; constructor) | (apply Ab.asm; assumption) | rfl | infer_instance | decide))
      all_goals ((first | apply RetQ.ret | apply RetQ.normal); (case he => exact evr_); (case hg => rfl))
      all_goals first | (simp [resV, h2]; done) | rfl | (apply Keeps.fr; (case h => exact fr_); (case hv => exact plR.nm rfl))
  · rw [decide_eq_false (show ¬ n ≤ 70 by omega), Bool.false_and]
    (repeat' (first | (apply Ab.K.ev; exact ev_) | (apply Ab.K.aops; first | (apply Xg.s; constructor) | (apply Ab.S.guardU; (case hd => rfl); (case hb => (exact ev_; done))) | apply Ab.S.guardG) | (apply Ab.K.aop; first | (apply Ab.O.boxA (l := [.slice A n c, .slice B m d]) N; (case hx => exact ev_); (case hid => exact hT.free (Nat.le_refl _))) | (apply Og.s; constructor)) | (apply Ab.K.gk; first | (apply Xg.s; constructor) | (apply Ab.gY; case hw => assumption) | (apply Ab.gNT; case hw => assumption) | (apply Ab.gNF; case hw => assumption) | ((first | apply Ab.gD | apply Ab.gDN); all_goals (intro _ _; (first | contradiction | (exfalso; omega) | skip)))) | (apply Ab.K.awp; first | (apply Xg.s; constructor)) | (apply Ab.K.at_; exact at_) | (apply Ab.K.acall; first | assumption | fail) | (apply Ab.Rg.mk; omega) | (apply Ab.Lt.mk; first | decide | (simp; done) | (simp; omega) | fail) | (apply Ab.Get.mk; first | rfl | rfl) | (apply Ab.Nm.mk; first | exact nrm_) | (apply Xg.s; constructor) | (apply Ab.asm; assumption) | rfl | infer_instance | decide))
    all_goals ((first | apply RetQ.ret | apply RetQ.normal); (case he => exact evr_); (case hg => rfl))
    all_goals first | rfl | (apply Keeps.fr; (case h => exact fr_); (case hv => exact plR.nm rfl))
set_option maxHeartbeats 4000000 in
theorem awake09 {s : AHeap} : ACall Try.prog 9 [] s (.bool true) s := by
  refine ACall.make Try.func9 rfl (by kernel_rfl) (by decide) rfl (fun N hN => ?_)
  have hT : Top N s := hN
  obtain ⟨s1, hs1⟩ : ∃ s1, s1 = (s.set N (.cells true 3 (ecs [e1, e2]))).set (N + 1) (.cells true 1 (ints [1, 2, 3])) := ⟨_, rfl⟩
  have T1 : Top (N + 2) s1 := by rw [hs1]; exact hT.new.new
  have F1 : Fr s1 s [] := by rw [hs1]; exact Fr.new (hT.free (by omega)) (Fr.new (hT.free (Nat.le_refl _)) (Fr.refl _ _))
  have aE : At s1 N (.cells true 3 (ecs [e1, e2])) := by rw [hs1]; exact at_
  have aN : At s1 (N + 1) (.cells true 1 (ints [1, 2, 3])) := by rw [hs1]; exact At.hit
  have c18 := view10 (nodes := [1, 2, 3]) (l := [e1, e2]) (mk := [e1, e2]) aN aE aE (by decide) (by decide) (by decide) (by rw [vl_el]; decide)
  rw [vl_el] at c18
  rw [hs1] at c18
  (repeat' (first | (apply Ab.K.ev; exact ev_) | (apply Ab.K.aops; first | (apply Xg.s; constructor) | (apply Ab.S.guardU; (case hd => rfl); (case hb => (exact ev_; done))) | apply Ab.S.guardG) | (apply Ab.K.aop; first | (first | (apply Ab.O.callFE; (case ha => exact evs_); (case hc => exact c18)) | (apply Ab.O.buildSlice N (te := ⟨.struct [(0, 3), (1, 3), (2, 3)], 3, 24, .agg #[.int .i64 0, .int .i64 0, .int .i64 0]⟩) (c := ecs [e1, e2]); (case hp => exact evp_); (case hz => exact ⟨rfl, by decide, rfl⟩); (case hc => rfl); (case hid => exact hT.free (Nat.le_refl _))) | (apply Ab.O.buildSlice (N + 1) (te := ⟨.int .i64, 1, 8, .int .i64 0⟩) (c := ints [1, 2, 3]); (case hp => exact evp_); (case hz => exact ⟨rfl, by decide, rfl⟩); (case hc => rfl); (case hid => exact hT.new.free (Nat.le_refl _)))) | (apply Og.s; constructor)) | (apply Ab.K.gk; first | (apply Xg.s; constructor) | (apply Ab.gY; case hw => assumption) | (apply Ab.gNT; case hw => assumption) | (apply Ab.gNF; case hw => assumption) | ((first | apply Ab.gD | apply Ab.gDN); all_goals (intro _ _; (first | contradiction | (exfalso; omega) | skip)))) | (apply Ab.K.awp; first | (apply Xg.s; constructor)) | (apply Ab.K.at_; exact at_) | (apply Ab.K.acall; first | assumption | fail) | (apply Ab.Rg.mk; omega) | (apply Ab.Lt.mk; first | decide | (simp; done) | (simp; omega) | fail) | (apply Ab.Get.mk; first | rfl | rfl) | (apply Ab.Nm.mk; first | exact nrm_) | (apply Xg.s; constructor) | (apply Ab.asm; assumption) | rfl | infer_instance | decide))
  rintro v s2 ⟨u, rfl, hu, rfl⟩
  rw [← hs1] at hu ⊢
  clear c18
  obtain ⟨M, hM, hMN⟩ : ∃ M, u < M ∧ N + 2 ≤ M := ⟨max (u + 1) (N + 2), by omega, by omega⟩
  obtain ⟨w2, hw2⟩ : ∃ w2, w2 = s1.set u (.cells true 5 (kcs vl)) := ⟨_, rfl⟩
  have T2 : Top M w2 := by rw [hw2]; exact (T1.mono hMN).set hM
  have F2 : Fr w2 s [] := by rw [hw2]; exact fun i hi c hc => Fr.new (free_of hu) (Fr.refl s1 []) i hi c (F1 i hi c hc)
  have hNu : N + 1 ≠ u := fun e => by rw [← e, aN.eq] at hu; cases hu
  have aN2 : At w2 (N + 1) (.cells true 1 (ints [1, 2, 3])) := by rw [hw2]; exact At.miss hNu aN
  have aK2 : At w2 u (.cells true 5 (kcs vl)) := by rw [hw2]; exact At.hit
  obtain ⟨w3, hw3⟩ : ∃ w3, w3 = (w2.set M (.cells true 1 [.slice none 0 0, .slice none 0 0])).set M (.cells true 1 [.slice (some ⟨N + 1, 0, none⟩) 3 3, .slice (some ⟨u, 0, none⟩) 4 4]) := ⟨_, rfl⟩
  have F3 : Fr w3 s [] := by rw [hw3, AHeap.set_set]; exact Fr.new (hT.free (by omega)) F2
  have aN3 : At w3 (N + 1) (.cells true 1 (ints [1, 2, 3])) := by rw [hw3]; exact at_
  have aK3 : At w3 u (.cells true 5 (kcs vl)) := by rw [hw3]; exact at_
  have aV3 : At w3 M (.cells true 1 [.slice (some ⟨N + 1, 0, none⟩) 3 3, .slice (some ⟨u, 0, none⟩) 4 4]) := by rw [hw3]; exact At.hit
  have hV : VAt w3 (some ⟨N + 1, 0, none⟩) (some ⟨u, 0, none⟩) 3 3 4 4 [1, 2, 3] vl := ⟨by decide, by decide, ⟨_, NA.own aN3⟩, ⟨_, KA.own aK3⟩⟩
  have c10 := hopR (a := 3) (b := 1) hV
  have c12 := leaderR (a := 3) hV
  rw [vl_hopV, vl_hopE] at c10
  rw [vl_ldr, vl_chk] at c12
  rw [hw3] at c10 c12
  rw [← hw2]


  (repeat' (first | (apply Ab.K.ev; exact ev_) | (apply Ab.K.aops; first | (apply Xg.s; constructor) | (apply Ab.S.guardU; (case hd => rfl); (case hb => (exact ev_; done))) | apply Ab.S.guardG) | (apply Ab.K.aop; first | (first | (apply Ab.O.allocA (l := [.slice none 0 0, .slice none 0 0]) M; (case hid => exact T2.free (Nat.le_refl _)); (case hp => rfl)) | (apply Ab.O.storeAll; (case hz => rfl); (case hx => exact ev_); (case hy => exact ev_); (case hs => exact at_); (case hl => rfl); (case hc => rfl))) | (apply Og.s; constructor)) | (apply Ab.K.gk; first | (apply Xg.s; constructor) | (apply Ab.gY; case hw => assumption) | (apply Ab.gNT; case hw => assumption) | (apply Ab.gNF; case hw => assumption) | ((first | apply Ab.gD | apply Ab.gDN); all_goals (intro _ _; (first | contradiction | (exfalso; omega) | skip)))) | (apply Ab.K.awp; first | (apply Xg.s; constructor)) | (apply Ab.K.at_; exact at_) | (apply Ab.K.acall; first | assumption | first | exact c10 | exact c12) | (apply Ab.Rg.mk; omega) | (apply Ab.Lt.mk; first | decide | (simp; done) | (simp; omega) | fail) | (apply Ab.Get.mk; first | rfl | rfl) | (apply Ab.Nm.mk; first | exact (show (([.slice (some ⟨N + 1, 0, none⟩) 3 3, .slice (some ⟨u, 0, none⟩) 4 4] : List Value).drop 0).take 2 = [.slice (some ⟨N + 1, 0, none⟩) 3 3, .slice (some ⟨u, 0, none⟩) 4 4] from rfl) | exact nrm_) | (apply Xg.s; constructor) | (apply Ab.asm; assumption) | rfl | infer_instance | decide))
  all_goals ((first | apply RetQ.ret | apply RetQ.normal); (case he => exact evr_); (case hg => rfl))
  all_goals first | rfl | (rw [← hw3]; exact Keeps.fr F3 (plR.nm rfl))
end Go.Proofs.Ytdbnpghckgmaoaa

/- routes: the next node from any to any; the way back. -/
namespace Go.Proofs.Ytdbnpghckgmaoaa
set_option linter.unusedVariables false
set_option linter.unusedSimpArgs false
set_option linter.unusedSectionVars false
open Go.RowKit Ab TP VP
theorem lightB_iff {n m : Nat} : lightB n m = true ↔ n ≤ 70 ∧ m ≤ 60 := by simp [lightB]
theorem vat {s : AHeap} {A B : Option Addr} {n c m d : Nat} {on ol : Option Nat} {nodes : List Int} {K : List Kn} (hN : NA s (.slice A n c) on nodes) (hL : KA s (.slice B m d) ol K) (h : lightB n m = true) : VAt s A B n c m d nodes K := by
  obtain ⟨h1, h2⟩ := lightB_iff.1 h
  exact ⟨by omega, by omega, ⟨_, hN⟩, ⟨_, hL⟩⟩
/-- All of a way of bound edges are nodes that are told. -/
theorem way_in {nodes : List Int} {K : List Kn} (h : MayV nodes K) {a b : Int} {p : List Int} (hw : TP.Way (bnd K) a b p) (ha : a ∈ nodes) : ∀ x ∈ p, x ∈ nodes := by
  induction hw with
  | one a => intro x hx; rw [List.mem_singleton] at hx; subst hx; exact ha
  | cons hadj hn0 hr0 ih =>
    rename_i a b c p
    intro x hx
    have hb : b ∈ nodes := by
      obtain ⟨e, he, hh⟩ := hadj
      obtain ⟨_, h1, h2, _⟩ := bnd_mem h.1 h.2 he
      rcases hh with ⟨_, rfl⟩ | ⟨rfl, _⟩
      · exact h2
      · exact h1
    rcases List.mem_cons.1 hx with rfl | hx
    · exact ha
    · exact ih hb x hx
theorem back_ok {nodes : List Int} {K : List Kn} {a b : Int} (hck : chk nodes K a = 0) (hab : a ≠ b) (h : hopE nodes K a b = 0) : hopE nodes K (hopV nodes K a b) a = 0 ∧ hopV nodes K (hopV nodes K a b) a = a ∧ hopV nodes K a b ≠ a := by
  obtain ⟨hMV, ha, hfo, hin⟩ := chk_zero hck
  obtain ⟨hb, _, hlk⟩ := hop_ok.1 h
  obtain ⟨p, hp⟩ := Way.ex (lkB_iff.1 hlk).2.2
  have hc := hMV.cut hfo
  have hn := nxt_eq hc hp
  rw [hopV_ok h]
  have hins := way_in hMV hp hin
  have hnd := hp.nodes (Good.node hMV.good) ha
  cases hp with
  | one => exact absurd rfl hab
  | cons hadj hnot r =>
    rename_i x q
    obtain ⟨t, ht⟩ := r.head
    have hx : nxt (bnd K) a b = x := by rw [ht] at hn; exact (Option.some.inj hn).symm
    rw [hx]
    have hxq : x ∈ q := r.mem_first
    have hxa : x ≠ a := fun e => hnot (e ▸ hxq)
    have hxN : x ∈ nodes := hins x (by simp [hxq])
    have hxn : TP.Node x := hnd x (by simp [hxq])
    have hw : TP.Way (bnd K) x a [x, a] := .cons hadj.symm (by simpa using hxa) (.one a)
    have hckx := chk_of hMV hxn hfo hxN
    have hE : hopE nodes K x a = 0 := hop_ok.2 ⟨ha, hckx, lkB_iff.2 ⟨hxn, ha, hw.conn⟩⟩
    refine ⟨hE, ?_, hxa⟩
    rw [hopV_ok hE]
    exact (Option.some.inj (nxt_eq hc hw)).symm
attribute [local irreducible] AOps AOpsD AOp AWp put nargs AHeap.set At Free ACall ACallE thenQ blockQ roundQ RetQ RetE Src Gr side lkN chk hopE hopV ldr nxt VP.bnd inn mvB reachB lkB foB tblN vlinks



set_option maxHeartbeats 4000000 in
theorem law3 {s : AHeap} {A B : Option Addr} {n c m d : Nat} {on ol : Option Nat} {nodes : List Int} {K : List Kn} {a b : Int} (hN : NA s (.slice A n c) on nodes) (hL : KA s (.slice B m d) ol K) :
    ACall Try.prog 3 [.agg #[.slice A n c, .slice B m d], .int .i64 a, .int .i64 b] s (.bool true) s := by
  refine ACall.make Try.func3 rfl (by kernel_rfl) (by decide) rfl (fun N hN0 => ?_)
  have hT : Top N s := hN0
  have F1 : Fr (s.set N (.cells true 1 [.slice A n c, .slice B m d])) s [] := Fr.new (hT.free (Nat.le_refl _)) (Fr.refl _ _)
  have aw : ∀ s : AHeap, ACall Try.prog 9 [] s (.bool true) s := fun s => awake09
  have c8 : ∀ s : AHeap, ACall Try.prog 8 [.agg #[.slice A n c, .slice B m d]] s (.bool (lightB n m)) s := fun s => lightL
  cases hli : lightB n m
  · rw [hli] at c8
    (repeat' (first | (apply Ab.K.ev; exact ev_) | (apply Ab.K.aops; first | (apply Xg.s; constructor) | (apply Ab.S.guardU; (case hd => rfl); (case hb => (exact ev_; done))) | apply Ab.S.guardG) | (apply Ab.K.aop; first | (apply Ab.O.boxA (l := [.slice A n c, .slice B m d]) N; (case hx => exact ev_); (case hid => exact hT.free (Nat.le_refl _))) | (apply Og.s; constructor)) | (apply Ab.K.gk; first | (apply Xg.s; constructor) | (apply Ab.gY; case hw => assumption) | (apply Ab.gNT; case hw => assumption) | (apply Ab.gNF; case hw => assumption) | ((first | apply Ab.gD | apply Ab.gDN); all_goals (intro _ _; (first | contradiction | (exfalso; omega) | skip)))) | (apply Ab.K.awp; first | (apply Xg.s; constructor)) | (apply Ab.K.at_; exact at_) | (apply Ab.K.acall; first | assumption | first | exact c8 _ | exact aw _) | (apply Ab.Rg.mk; omega) | (apply Ab.Lt.mk; first | decide | (simp; done) | (simp; omega) | fail) | (apply Ab.Get.mk; first | rfl | rfl) | (apply Ab.Nm.mk; first | exact (show (([.slice A n c, .slice B m d] : List Value).drop 0).take 2 = [.slice A n c, .slice B m d] from rfl) | exact nrm_) | (apply Xg.s; constructor) | (apply Ab.asm; assumption) | rfl | infer_instance | decide))
    all_goals ((first | apply RetQ.ret | apply RetQ.normal); (case he => exact evr_); (case hg => rfl))
    all_goals first | rfl | (apply Keeps.fr; (case h => exact fr_); (case hv => exact plR.nm rfl))
  rw [hli] at c8
  have hV := (vat hN hL hli).fr F1
  have c10 := hopR (a := a) (b := b) hV
  have c11 := hop11 (a := a) (b := b) hV
  have c12 := leaderR (a := a) hV
  have c13 := leader11 (a := a) hV
  (repeat' (first | (apply Ab.K.ev; exact ev_) | (apply Ab.K.aops; first | (apply Xg.s; constructor) | (apply Ab.S.guardU; (case hd => rfl); (case hb => (exact ev_; done))) | apply Ab.S.guardG) | (apply Ab.K.aop; first | (apply Ab.O.boxA (l := [.slice A n c, .slice B m d]) N; (case hx => exact ev_); (case hid => exact hT.free (Nat.le_refl _))) | (apply Og.s; constructor)) | (apply Ab.K.gk; first | (apply Xg.s; constructor) | (apply Ab.gY; case hw => assumption) | (apply Ab.gNT; case hw => assumption) | (apply Ab.gNF; case hw => assumption) | ((first | apply Ab.gD | apply Ab.gDN); all_goals (intro _ _; (first | contradiction | (exfalso; omega) | skip)))) | (apply Ab.K.awp; first | (apply Xg.s; constructor)) | (apply Ab.K.at_; exact at_) | (apply Ab.K.acall; first | assumption | first | exact c8 _ | exact c10 | exact c11 | exact c12 | exact c13 | exact aw _) | (apply Ab.Rg.mk; omega) | (apply Ab.Lt.mk; first | decide | (simp; done) | (simp; omega) | fail) | (apply Ab.Get.mk; first | rfl | rfl) | (apply Ab.Nm.mk; first | exact (show (([.slice A n c, .slice B m d] : List Value).drop 0).take 2 = [.slice A n c, .slice B m d] from rfl) | exact nrm_) | (apply Xg.s; constructor) | (apply Ab.asm; assumption) | rfl | infer_instance | decide))
  all_goals ((first | apply RetQ.ret | apply RetQ.normal); (case he => exact evr_); (case hg => rfl))
  all_goals first | rfl | (apply Keeps.fr; (case h => exact fr_); (case hv => exact plR.nm rfl))
set_option maxHeartbeats 4000000 in
theorem law5 {s : AHeap} {A B : Option Addr} {n c m d : Nat} {on ol : Option Nat} {nodes : List Int} {K : List Kn} {a b : Int} (hN : NA s (.slice A n c) on nodes) (hL : KA s (.slice B m d) ol K) :
    ACall Try.prog 5 [.agg #[.slice A n c, .slice B m d], .int .i64 a, .int .i64 b] s (.bool true) s := by
  refine ACall.make Try.func5 rfl (by kernel_rfl) (by decide) rfl (fun N hN0 => ?_)
  have hT : Top N s := hN0
  have F1 : Fr (s.set N (.cells true 1 [.slice A n c, .slice B m d])) s [] := Fr.new (hT.free (Nat.le_refl _)) (Fr.refl _ _)
  have aw : ∀ s : AHeap, ACall Try.prog 9 [] s (.bool true) s := fun s => awake09
  have c8 : ∀ s : AHeap, ACall Try.prog 8 [.agg #[.slice A n c, .slice B m d]] s (.bool (lightB n m)) s := fun s => lightL
  cases hli : lightB n m
  · rw [hli] at c8
    (repeat' (first | (apply Ab.K.ev; exact ev_) | (apply Ab.K.aops; first | (apply Xg.s; constructor) | (apply Ab.S.guardU; (case hd => rfl); (case hb => (exact ev_; done))) | apply Ab.S.guardG) | (apply Ab.K.aop; first | (apply Ab.O.boxA (l := [.slice A n c, .slice B m d]) N; (case hx => exact ev_); (case hid => exact hT.free (Nat.le_refl _))) | (apply Og.s; constructor)) | (apply Ab.K.gk; first | (apply Xg.s; constructor) | (apply Ab.gY; case hw => assumption) | (apply Ab.gNT; case hw => assumption) | (apply Ab.gNF; case hw => assumption) | ((first | apply Ab.gD | apply Ab.gDN); all_goals (intro _ _; (first | contradiction | (exfalso; omega) | skip)))) | (apply Ab.K.awp; first | (apply Xg.s; constructor)) | (apply Ab.K.at_; exact at_) | (apply Ab.K.acall; first | assumption | first | exact c8 _ | exact aw _) | (apply Ab.Rg.mk; omega) | (apply Ab.Lt.mk; first | decide | (simp; done) | (simp; omega) | fail) | (apply Ab.Get.mk; first | rfl | rfl) | (apply Ab.Nm.mk; first | exact (show (([.slice A n c, .slice B m d] : List Value).drop 0).take 2 = [.slice A n c, .slice B m d] from rfl) | exact nrm_) | (apply Xg.s; constructor) | (apply Ab.asm; assumption) | rfl | infer_instance | decide))
    all_goals ((first | apply RetQ.ret | apply RetQ.normal); (case he => exact evr_); (case hg => rfl))
    all_goals first | rfl | (apply Keeps.fr; (case h => exact fr_); (case hv => exact plR.nm rfl))
  rw [hli] at c8
  have hV := (vat hN hL hli).fr F1
  have c14 := check11 (a := a) hV
  by_cases hck : chk nodes K a = 0
  case neg =>
    (repeat' (first | (apply Ab.K.ev; exact ev_) | (apply Ab.K.aops; first | (apply Xg.s; constructor) | (apply Ab.S.guardU; (case hd => rfl); (case hb => (exact ev_; done))) | apply Ab.S.guardG) | (apply Ab.K.aop; first | (apply Ab.O.boxA (l := [.slice A n c, .slice B m d]) N; (case hx => exact ev_); (case hid => exact hT.free (Nat.le_refl _))) | (apply Og.s; constructor)) | (apply Ab.K.gk; first | (apply Xg.s; constructor) | (apply Ab.gY; case hw => assumption) | (apply Ab.gNT; case hw => assumption) | (apply Ab.gNF; case hw => assumption) | ((first | apply Ab.gD | apply Ab.gDN); all_goals (intro _ _; (first | contradiction | (exfalso; omega) | skip)))) | (apply Ab.K.awp; first | (apply Xg.s; constructor)) | (apply Ab.K.at_; exact at_) | (apply Ab.K.acall; first | assumption | first | exact c8 _ | exact c14 | exact aw _) | (apply Ab.Rg.mk; omega) | (apply Ab.Lt.mk; first | decide | (simp; done) | (simp; omega) | fail) | (apply Ab.Get.mk; first | rfl | rfl) | (apply Ab.Nm.mk; first | exact (show (([.slice A n c, .slice B m d] : List Value).drop 0).take 2 = [.slice A n c, .slice B m d] from rfl) | exact nrm_) | (apply Xg.s; constructor) | (apply Ab.asm; assumption) | rfl | infer_instance | decide))
    all_goals ((first | apply RetQ.ret | apply RetQ.normal); (case he => exact evr_); (case hg => rfl))
    all_goals first | rfl | (apply Keeps.fr; (case h => exact fr_); (case hv => exact plR.nm rfl))
  have c10 := hopR (a := a) (b := b) hV
  have c10b := hopR (a := hopV nodes K a b) (b := a) hV
  by_cases hab : a = b
  · (repeat' (first | (apply Ab.K.ev; exact ev_) | (apply Ab.K.aops; first | (apply Xg.s; constructor) | (apply Ab.S.guardU; (case hd => rfl); (case hb => (exact ev_; done))) | apply Ab.S.guardG) | (apply Ab.K.aop; first | (apply Ab.O.boxA (l := [.slice A n c, .slice B m d]) N; (case hx => exact ev_); (case hid => exact hT.free (Nat.le_refl _))) | (apply Og.s; constructor)) | (apply Ab.K.gk; first | (apply Xg.s; constructor) | (apply Ab.gY; case hw => assumption) | (apply Ab.gNT; case hw => assumption) | (apply Ab.gNF; case hw => assumption) | ((first | apply Ab.gD | apply Ab.gDN); all_goals (intro _ _; (first | contradiction | (exfalso; omega) | skip)))) | (apply Ab.K.awp; first | (apply Xg.s; constructor)) | (apply Ab.K.at_; exact at_) | (apply Ab.K.acall; first | assumption | first | exact c8 _ | exact c14 | exact c10 | exact c10b | exact aw _) | (apply Ab.Rg.mk; omega) | (apply Ab.Lt.mk; first | decide | (simp; done) | (simp; omega) | fail) | (apply Ab.Get.mk; first | rfl | rfl) | (apply Ab.Nm.mk; first | exact (show (([.slice A n c, .slice B m d] : List Value).drop 0).take 2 = [.slice A n c, .slice B m d] from rfl) | exact nrm_) | (apply Xg.s; constructor) | (apply Ab.asm; assumption) | rfl | infer_instance | decide))
    all_goals ((first | apply RetQ.ret | apply RetQ.normal); (case he => exact evr_); (case hg => rfl))
    all_goals first | rfl | (apply Keeps.fr; (case h => exact fr_); (case hv => exact plR.nm rfl))
  by_cases hE : hopE nodes K a b = 0
  case neg =>
    (repeat' (first | (apply Ab.K.ev; exact ev_) | (apply Ab.K.aops; first | (apply Xg.s; constructor) | (apply Ab.S.guardU; (case hd => rfl); (case hb => (exact ev_; done))) | apply Ab.S.guardG) | (apply Ab.K.aop; first | (apply Ab.O.boxA (l := [.slice A n c, .slice B m d]) N; (case hx => exact ev_); (case hid => exact hT.free (Nat.le_refl _))) | (apply Og.s; constructor)) | (apply Ab.K.gk; first | (apply Xg.s; constructor) | (apply Ab.gY; case hw => assumption) | (apply Ab.gNT; case hw => assumption) | (apply Ab.gNF; case hw => assumption) | ((first | apply Ab.gD | apply Ab.gDN); all_goals (intro _ _; (first | contradiction | (exfalso; omega) | skip)))) | (apply Ab.K.awp; first | (apply Xg.s; constructor)) | (apply Ab.K.at_; exact at_) | (apply Ab.K.acall; first | assumption | first | exact c8 _ | exact c14 | exact c10 | exact c10b | exact aw _) | (apply Ab.Rg.mk; omega) | (apply Ab.Lt.mk; first | decide | (simp; done) | (simp; omega) | fail) | (apply Ab.Get.mk; first | rfl | rfl) | (apply Ab.Nm.mk; first | exact (show (([.slice A n c, .slice B m d] : List Value).drop 0).take 2 = [.slice A n c, .slice B m d] from rfl) | exact nrm_) | (apply Xg.s; constructor) | (apply Ab.asm; assumption) | rfl | infer_instance | decide))
    all_goals ((first | apply RetQ.ret | apply RetQ.normal); (case he => exact evr_); (case hg => rfl))
    all_goals first | rfl | (apply Keeps.fr; (case h => exact fr_); (case hv => exact plR.nm rfl))
  obtain ⟨h1, h2, h3⟩ := back_ok hck hab hE
  rw [h1, h2] at c10b
  (repeat' (first | (apply Ab.K.ev; exact ev_) | (apply Ab.K.aops; first | (apply Xg.s; constructor) | (apply Ab.S.guardU; (case hd => rfl); (case hb => (exact ev_; done))) | apply Ab.S.guardG) | (apply Ab.K.aop; first | (apply Ab.O.boxA (l := [.slice A n c, .slice B m d]) N; (case hx => exact ev_); (case hid => exact hT.free (Nat.le_refl _))) | (apply Og.s; constructor)) | (apply Ab.K.gk; first | (apply Xg.s; constructor) | (apply Ab.gY; case hw => assumption) | (apply Ab.gNT; case hw => assumption) | (apply Ab.gNF; case hw => assumption) | ((first | apply Ab.gD | apply Ab.gDN); all_goals (intro _ _; (first | contradiction | (exfalso; omega) | skip)))) | (apply Ab.K.awp; first | (apply Xg.s; constructor)) | (apply Ab.K.at_; exact at_) | (apply Ab.K.acall; first | assumption | first | exact c8 _ | exact c14 | exact c10 | exact c10b | exact aw _) | (apply Ab.Rg.mk; omega) | (apply Ab.Lt.mk; first | decide | (simp; done) | (simp; omega) | fail) | (apply Ab.Get.mk; first | rfl | rfl) | (apply Ab.Nm.mk; first | exact (show (([.slice A n c, .slice B m d] : List Value).drop 0).take 2 = [.slice A n c, .slice B m d] from rfl) | exact nrm_) | (apply Xg.s; constructor) | (apply Ab.asm; assumption) | rfl | infer_instance | decide))
  all_goals ((first | apply RetQ.ret | apply RetQ.normal); (case he => exact evr_); (case hg => rfl))
  all_goals first | rfl | (apply Keeps.fr; (case h => exact fr_); (case hv => exact plR.nm rfl))
end Go.Proofs.Ytdbnpghckgmaoaa
