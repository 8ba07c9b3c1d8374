/- trees: one behind the other. -/
import Derived.Test.YtnbgeodignljfaaTK
import Derived.Test.YtnbgeodignljfaaTJ1
namespace Go.Proofs.Ytnbgeodignljfaa
set_option linter.unusedVariables false
set_option linter.unusedSimpArgs false
set_option linter.unusedSectionVars false
open Go.RowKit Ab TP
attribute [local irreducible] AOps AOpsD AOp AWp put nargs AHeap.set At Free ACall ACallE thenQ blockQ roundQ RetQ RetE Src bsn
theorem other_has {e : E} {n : Int} (h : 0 < other e n) : e.has n (other e n) := by
  unfold other at *
  split
  · rename_i h1; exact .inl ⟨h1, rfl⟩
  · rename_i h1
    rw [if_neg h1] at h
    split
    · rename_i h2; exact .inr ⟨rfl, h2⟩
    · rename_i h2; rw [if_neg h2] at h; omega
theorem has_other {e : E} (hm : e.may) {n y : Int} (h : e.has n y) : other e n = y := by
  have := hm.2.2.1
  unfold other
  rcases h with ⟨h1, h2⟩ | ⟨h1, h2⟩
  · rw [if_pos h1, h2]
  · rw [if_neg (by omega), if_pos h2, h1]
theorem ints_zeros (n : Nat) : ints (List.replicate n (0 : Int)) = List.replicate n (.int .i64 0) := by simp [ints]
set_option maxRecDepth 4000 in
set_option maxHeartbeats 4000000 in
theorem ups30 {s : AHeap} {A : Option Addr} {n c : Nat} {on : Option Nat} {l : List E} {root : Int} (h : EA s (.slice A n c) on l) (hg : TP.Good l) (hr : TP.Node root) (hn : n ≤ 512) :
    ACallE Try.prog 30 [.slice A n c, .int .i64 root] s (fun v s' => ∃ U Q u, v = .slice (some ⟨u, 0, none⟩) 65 65 ∧ s u = none ∧ s' = s.set u (.cells true 1 (ints U)) ∧ Bfs l root U Q Q) := by
  have hnl : n = l.length := by obtain ⟨_, _, e⟩ := h.isl; injection e
  have hr' : 1 ≤ root ∧ root ≤ 64 := hr
  refine ACallE.make Try.func30 rfl (by kernel_rfl) (by decide) rfl (fun N hN => ?_)
  have hT : Top N s := hN
  have hmk : amakeSlice Try.prog 25 s (.int .i64 65) (.int .i64 65) N = some (.slice (some ⟨N, 0, none⟩) 65 65, s.set N (.cells true 1 (ints (List.replicate 65 0)))) := by
    have h25 : tdOf Try.prog 25 = some ⟨.slice 3, 1, 24, .slice none 0 0⟩ := by kernel_rfl
    have h3 : tdOf Try.prog 3 = some ⟨.int .i64, 1, 8, .int .i64 0⟩ := by kernel_rfl
    have hf := hT.none (Nat.le_refl N)
    simp only [amakeSlice, h25, h3]
    simp [hf, plB, pl1, plA, Value.cells, zrep, ints]


  (repeat' (first | (apply Ab.K.ev; exact ev_) | (apply Ab.K.aops; first | (apply Xg.s; constructor) | (apply Ab.S.guardU; (case hd => rfl); (case hb => (exact ev_; done))) | apply Ab.S.guardG) | (apply Ab.K.aop; first | (first | (apply Ab.O.makeSlice N; (case hx => exact ev_); (case hy => exact ev_); (case hv => exact hmk)) | (apply Ab.O.build1 (N + 1); (case hx => exact ev_); (case hv => exact ⟨rfl, rfl⟩); (case hz => exact ⟨rfl, rfl⟩); (case hid => exact free_))) | (apply Og.s; constructor)) | (apply Ab.K.gk; first | (apply Xg.s; constructor) | (apply Ab.gY; case hw => assumption) | (apply Ab.gNT; case hw => assumption) | (apply Ab.gNF; case hw => assumption) | ((first | apply Ab.gD | apply Ab.gDN); all_goals (intro _ _; (first | contradiction | (exfalso; omega) | skip)))) | (apply Ab.K.awp; first | (apply Xg.s; constructor)) | (apply Ab.K.at_; exact at_) | (apply Ab.K.acall; first | assumption | fail) | (apply Ab.Rg.mk; omega) | (apply Ab.Lt.mk; first | decide | (simp; done) | (simp; omega) | (rw [ints_length]; simp; omega)) | (apply Ab.Get.mk; first | rfl | fail) | (apply Ab.Nm.mk; first | exact ints_set _ _ _ | exact nrm_) | (apply Xg.s; constructor) | (apply Ab.asm; assumption) | rfl | infer_instance | decide))
  have B0 := Bfs.start (l := l) hr
  refine AWp.loop (fun kk tm s1 => ∃ (u q off M : Nat) (U cl todo : List Int) (cs : List Value), Ev tm (.tmp 0) (.slice A n c) ∧ Ev tm (.tmp 5) (.slice (some ⟨u, 0, none⟩) 65 65) ∧ Ev tm (.tmp 6) (.slice (some ⟨q, off, none⟩) todo.length todo.length) ∧ At s1 u (.cells true 1 (ints U)) ∧ At s1 q (.cells true 1 cs) ∧ off + todo.length ≤ cs.length ∧ (cs.drop off).take todo.length = ints todo ∧ u ≠ q ∧ N ≤ u ∧ N ≤ q ∧ Fr s1 s [] ∧ Top M s1 ∧ Bfs l root U cl (cl ++ todo) ∧ kk = 64 - cl.length) 64 ?_ ?_
  · exact ⟨N, N + 1, 0, N + 2, _, [], [root], [.int .i64 root], by exact ev_, by exact ev_, by exact ev_, by exact at_, by exact at_, by simp, rfl, by omega, Nat.le_refl _, by omega, by exact fr_, by exact top_, B0, rfl⟩
  clear B0 hmk
  rintro kk tm s1 ⟨u, q, off, M, U, cl, todo, cs, e0, e5, e6, a5, a6, hcs, hct, huq, hu, hq, F, T, B, hkk⟩
  have huM := T.lt a5
  have hqM := T.lt a6
  have hlen := pigeon 64 _ B.ord B.node
  rw [List.length_append] at hlen
  cases todo with
  | nil =>
    rw [List.append_nil] at B
    (repeat' (first | (apply Ab.K.ev; exact ev_) | (apply Ab.K.aops; first | (apply Xg.s; constructor) | (apply Ab.S.guardU; (case hd => rfl); (case hb => (exact ev_; done))) | apply Ab.S.guardG) | (apply Ab.K.aop; first | (apply Og.s; constructor)) | (apply Ab.K.gk; first | (apply Xg.s; constructor) | (apply Ab.gY; case hw => assumption) | (apply Ab.gNT; case hw => assumption) | (apply Ab.gNF; case hw => assumption) | ((first | apply Ab.gD | apply Ab.gDN); all_goals (intro _ _; (first | contradiction | (exfalso; omega) | skip)))) | (apply Ab.K.awp; first | (apply Xg.s; constructor)) | (apply Ab.K.at_; exact at_) | (apply Ab.K.acall; first | assumption | fail) | (apply Ab.Rg.mk; omega) | (apply Ab.Lt.mk; first | decide | (simp; done) | (simp; omega) | (rw [ints_length]; simp; omega)) | (apply Ab.Get.mk; first | rfl | fail) | (apply Ab.Nm.mk; first | exact ints_set _ _ _ | exact nrm_) | (apply Xg.s; constructor) | (apply Ab.asm; assumption) | rfl | infer_instance | decide))
    apply RetE.ret
    (case he => exact evr_)
    (case hg => rfl)
    (case hq => exact ⟨U, cl, u, rfl, hT.none hu, rfl, B⟩)
    exact Keeps.upd [(u, _)] (fun i _ c hc => F i (by simp) c hc) ⟨⟨a5, nm_scal (ints_pl _)⟩, trivial⟩ (updH_some (.inr (by simp)))
  | cons n0 t =>
    have hcz : ∀ j z, (n0 :: t)[j]? = some z → cs[off + j]? = some (.int .i64 z) := fun j z hz => by
      have h1 := ints_get hz
      rw [← hct, List.getElem?_take, if_pos (List.getElem?_eq_some_iff.1 hz).1, List.getElem?_drop] at h1
      exact h1
    have g0 : cs[off + 0 * 1]? = some (.int .i64 n0) := hcz 0 n0 rfl
    simp only [List.length_cons] at hlen hcs e6
    have hct2 : (cs.drop (off + 1)).take t.length = ints t := by
      have : (cs.drop off).take (n0 :: t).length = ints [n0] ++ ints t := by rw [hct]; rfl
      have h2 := congrArg (List.drop 1) this
      rw [List.drop_take, List.drop_drop] at h2
      exact h2
    have hn0 := B.node n0 (by simp)
    (repeat' (first | (apply Ab.K.ev; exact ev_) | (apply Ab.K.aops; first | (apply Xg.s; constructor) | (apply Ab.S.guardU; (case hd => rfl); (case hb => (exact ev_; done))) | apply Ab.S.guardG) | (apply Ab.K.aop; first | (apply Og.s; constructor)) | (apply Ab.K.gk; first | (apply Xg.s; constructor) | (apply Ab.gY; case hw => assumption) | (apply Ab.gNT; case hw => assumption) | (apply Ab.gNF; case hw => assumption) | ((first | apply Ab.gD | apply Ab.gDN); all_goals (intro _ _; (first | contradiction | (exfalso; omega) | skip)))) | (apply Ab.K.awp; first | (apply Xg.s; constructor)) | (apply Ab.K.at_; exact at_) | (apply Ab.K.acall; first | assumption | fail) | (apply Ab.Rg.mk; omega) | (apply Ab.Lt.mk; first | decide | (simp; done) | (simp; omega) | (rw [ints_length]; simp; omega)) | (apply Ab.Get.mk; first | rfl | first | exact g0) | (apply Ab.Nm.mk; first | exact ints_set _ _ _ | exact nrm_) | (apply Xg.s; constructor) | (apply Ab.asm; assumption) | rfl | infer_instance | decide))
    refine AWp.loop (fun k2 tm s2 => ∃ (i q off M : Nat) (U t : List Int) (cs : List Value), Ev tm (.tmp 0) (.slice A n c) ∧ Ev tm (.tmp 5) (.slice (some ⟨u, 0, none⟩) 65 65) ∧ Ev tm (.tmp 6) (.slice (some ⟨q, off, none⟩) t.length t.length) ∧ Ev tm (.tmp 7) (.int .i64 n0) ∧ Ev tm (.tmp 26) (.slice A n c) ∧ Ev tm (.tmp 27) (.int .i64 n) ∧ Ev tm (.tmp 28) (.int .i64 i) ∧ At s2 u (.cells true 1 (ints U)) ∧ At s2 q (.cells true 1 cs) ∧ off + t.length ≤ cs.length ∧ (cs.drop off).take t.length = ints t ∧ u ≠ q ∧ N ≤ q ∧ Fr s2 s [] ∧ Top M s2 ∧ Bfs l root U cl (cl ++ n0 :: t) ∧ (∀ e ∈ l.take i, ∀ y, e.has n0 y → y ∈ cl ++ n0 :: t) ∧ i ≤ n ∧ k2 = n - i) n ?_ ?_
    · exact ⟨0, q, off + 1, M, U, t, cs, by exact ev_, by exact ev_, by exact ev_, by exact ev_, by exact ev_, by exact ev_, by exact ev_, a5, a6, by omega, hct2, huq, hq, F, T, B, (fun e he => by simp at he), by omega, rfl⟩
    clear a5 a6 hct hct2 hcs hcz g0 F T B e0 e5 e6 huM hqM hq huq
    rintro k2 tm s2 ⟨i, q, off, M, U, t, cs, e0, e5, e6, e7, e26, e27, e28, a5, a6, hcs, hct, huq, hq, F, T, B, hask, hi, hk2⟩
    have huM := T.lt a5
    have hqM := T.lt a6
    have hn0' : 1 ≤ n0 ∧ n0 ≤ 64 := hn0
    by_cases hin : i < n
    · have hi' : l[i]? = some (l[i]'(by omega)) := List.getElem?_eq_getElem (by omega)
      obtain ⟨e, hee⟩ : ∃ e, e = l[i]'(by omega) := ⟨_, rfl⟩
      rw [← hee] at hi'
      have hel := List.mem_of_getElem? hi'
      have hem := hg.1 e hel
      have m1 : 1 ≤ e.a ∧ e.a ≤ 64 := hem.1
      have m2 : 1 ≤ e.b ∧ e.b ≤ 64 := hem.2.1
      have htk : l.take (i + 1) = l.take i ++ [e] := by rw [List.take_add_one, hi']; rfl
      obtain ⟨qq, rw1, ds, rfl, hon, _, hq', _, hE, _⟩ := (h.fr F).elt hi'
      have hqN := h.lt hT qq hon
      have c36 : ∀ s : AHeap, ACall Try.prog 36 [.agg (ec e).toArray, .int .i64 n0] s (.int .i64 (other e n0)) s := fun s => other36
      obtain ⟨ov, hov⟩ : ∃ ov, ov = other e n0 := ⟨_, rfl⟩
      rw [← hov] at c36
      have hovr : 0 ≤ ov ∧ ov ≤ 64 := by rw [hov]; unfold other; (repeat' split) <;> omega
      have hyo : ∀ y, e.has n0 y → y = ov := fun y hy => by rw [hov]; exact (has_other hem hy).symm
      have hinU : JP.In U ov := ⟨hovr.1, by rw [B.len]; omega⟩
      have gU := ints_at hinU




      by_cases hgo : 0 < ov ∧ JP.g U ov = 0
      · obtain ⟨hov0, hgz⟩ := hgo
        rw [hgz] at gU
        have hhas : e.has n0 ov := by rw [hov] at hov0 ⊢; exact other_has hov0
        have B2 := B.push (n := n0) (o := ov) (by simp) ⟨e, hel, hhas⟩ ⟨by omega, hovr.2⟩ hgz
        have hlen2 := pigeon 64 _ B2.ord B2.node
        simp only [List.length_append, List.length_cons] at hlen2
        (repeat' (first | (apply Ab.K.ev; exact ev_) | (apply Ab.K.aops; first | (apply Xg.s; constructor) | (apply Ab.S.guardU; (case hd => rfl); (case hb => (exact ev_; done))) | apply Ab.S.guardG) | (apply Ab.K.aop; first | (first | (first | (apply Ab.O.allocA (l := ec ⟨0, 0, 0⟩) M; (case hid => exact T.free (Nat.le_refl _)); (case hp => rfl)) | (apply Ab.O.storeAll; (case hz => rfl); (case hx => exact ev_); (case hy => exact ev_); (case hs => exact at_); (case hl => rfl); (case hc => rfl))) | (apply Ab.O.build1 (M + 1); (case hx => exact ev_); (case hv => exact ⟨rfl, rfl⟩); (case hz => exact ⟨rfl, rfl⟩); (case hid => exact free_))) | (apply Og.s; constructor)) | (apply Ab.K.gk; first | (apply Xg.s; constructor) | (apply Ab.gY; case hw => assumption) | (apply Ab.gNT; case hw => assumption) | (apply Ab.gNF; case hw => assumption) | ((first | apply Ab.gD | apply Ab.gDN); all_goals (intro _ _; (first | contradiction | (exfalso; omega) | skip)))) | (apply Ab.K.awp; first | (apply Xg.s; constructor)) | (apply Ab.K.at_; exact at_) | (apply Ab.K.acall; first | assumption | exact c36 _) | (apply Ab.Rg.mk; omega) | (apply Ab.Lt.mk; first | decide | (simp; done) | (simp; omega) | first | omega | (show (0 + 3 : Nat) < 3 + 1; decide) | (rw [ints_length, B.len]; omega)) | (apply Ab.Get.mk; first | rfl | first | exact gU | (rw [Nat.mul_one]; exact gU)) | (apply Ab.Nm.mk; first | first | exact ints_set _ _ _ | exact Eq.trans (congrArg (fun z => List.take _ (List.drop (z * 3) ds)) (Int.toNat_natCast i)) hE | exact (show ((ec e).drop 0).take 3 = ec e from rfl) | exact nrm_) | (apply Xg.s; constructor) | (apply Ab.asm; assumption) | rfl | infer_instance | decide))
        apply Ab.O.appendMove (M + 2) (es := 1) (n := t.length) (c := t.length) (m := 1) (off := off) (cs := cs) (xs := [.int .i64 ov]) (old := ints t)
        (case hx => exact ev_)
        (case hy => exact ev_)
        (case hs => exact srcAll At.hit rfl)
        (case ha => exact at_)
        (case hk => rfl)
        (case hm => decide)
        (case hr => omega)
        (case hl => rfl)
        (case hz => decide)
        (case hb => omega)
        (case hid => exact free_)
        (case ho => omega)
        (case hold => (rw [Nat.mul_one]; exact hct))
        (repeat' (first | (apply Ab.K.ev; exact ev_) | (apply Ab.K.aops; first | (apply Xg.s; constructor) | (apply Ab.S.guardU; (case hd => rfl); (case hb => (exact ev_; done))) | apply Ab.S.guardG) | (apply Ab.K.aop; first | (apply Og.s; constructor)) | (apply Ab.K.gk; first | (apply Xg.s; constructor) | (apply Ab.gY; case hw => assumption) | (apply Ab.gNT; case hw => assumption) | (apply Ab.gNF; case hw => assumption) | ((first | apply Ab.gD | apply Ab.gDN); all_goals (intro _ _; (first | contradiction | (exfalso; omega) | skip)))) | (apply Ab.K.awp; first | (apply Xg.s; constructor)) | (apply Ab.K.at_; exact at_) | (apply Ab.K.acall; first | assumption | exact c36 _) | (apply Ab.Rg.mk; omega) | (apply Ab.Lt.mk; first | decide | (simp; done) | (simp; omega) | first | omega | (show (0 + 3 : Nat) < 3 + 1; decide) | (rw [ints_length, B.len]; omega)) | (apply Ab.Get.mk; first | rfl | first | exact gU | (rw [Nat.mul_one]; exact gU)) | (apply Ab.Nm.mk; first | first | exact ints_set _ _ _ | exact Eq.trans (congrArg (fun z => List.take _ (List.drop (z * 3) ds)) (Int.toNat_natCast i)) hE | exact (show ((ec e).drop 0).take 3 = ec e from rfl) | exact nrm_) | (apply Xg.s; constructor) | (apply Ab.asm; assumption) | rfl | infer_instance | decide))
        have B3 : Bfs l root (U.set ov.toNat n0) cl (cl ++ n0 :: (t ++ [ov])) := by
          have := B2; rwa [List.append_assoc, List.cons_append] at this
        refine X.roundN (n - (i + 1)) (by omega) ⟨i + 1, M + 2, 0, M + 3, U.set ov.toNat n0, t ++ [ov], ints t ++ [.int .i64 ov], by exact ev_, by exact ev_, by rw [List.length_append]; exact ev_, by exact ev_, by exact ev_, by exact ev_, by exact ev_, by exact at_, At.hit, ?_, ?_, by omega, by omega, by exact fr_, by exact top_, B3, fun f hf y hy => ?_, by omega, rfl⟩
        · rw [List.length_append, List.length_append, ints_length]; simp
        · rw [List.drop_zero, ints_append]; exact List.take_of_length_le (by rw [List.length_append, List.length_append, ints_length]; simp)
        · rw [htk] at hf
          rcases List.mem_append.1 hf with hf | hf
          · have := hask f hf y hy
            rcases List.mem_append.1 this with h1 | h1
            · exact List.mem_append_left _ h1
            · refine List.mem_append_right _ ?_
              rcases List.mem_cons.1 h1 with h1 | h1
              · rw [h1]; exact List.mem_cons_self
              · exact List.mem_cons_of_mem _ (List.mem_append_left _ h1)
          · rw [List.mem_singleton.1 hf] at hy
            rw [hyo y hy]; simp
      · have hask2 : ∀ f ∈ l.take (i + 1), ∀ y, f.has n0 y → y ∈ cl ++ n0 :: t := fun f hf y hy => by
          rw [htk] at hf
          rcases List.mem_append.1 hf with hf | hf
          · exact hask f hf y hy
          · rw [List.mem_singleton.1 hf] at hy
            have hyv := hyo y hy
            have hy1 : 0 < y := by rcases hy with ⟨_, h2⟩ | ⟨h1, _⟩ <;> omega
            refine (B.mem y (by omega) (by omega)).1 fun hz => hgo ⟨by omega, by rw [← hyv]; exact hz⟩
        by_cases hov0 : 0 < ov
        · have hgz : JP.g U ov ≠ 0 := fun hz => hgo ⟨hov0, hz⟩
          (repeat' (first | (apply Ab.K.ev; exact ev_) | (apply Ab.K.aops; first | (apply Xg.s; constructor) | (apply Ab.S.guardU; (case hd => rfl); (case hb => (exact ev_; done))) | apply Ab.S.guardG) | (apply Ab.K.aop; first | (first | (apply Ab.O.allocA (l := ec ⟨0, 0, 0⟩) M; (case hid => exact T.free (Nat.le_refl _)); (case hp => rfl)) | (apply Ab.O.storeAll; (case hz => rfl); (case hx => exact ev_); (case hy => exact ev_); (case hs => exact at_); (case hl => rfl); (case hc => rfl))) | (apply Og.s; constructor)) | (apply Ab.K.gk; first | (apply Xg.s; constructor) | (apply Ab.gY; case hw => assumption) | (apply Ab.gNT; case hw => assumption) | (apply Ab.gNF; case hw => assumption) | ((first | apply Ab.gD | apply Ab.gDN); all_goals (intro _ _; (first | contradiction | (exfalso; omega) | skip)))) | (apply Ab.K.awp; first | (apply Xg.s; constructor)) | (apply Ab.K.at_; exact at_) | (apply Ab.K.acall; first | assumption | exact c36 _) | (apply Ab.Rg.mk; omega) | (apply Ab.Lt.mk; first | decide | (simp; done) | (simp; omega) | first | omega | (show (0 + 3 : Nat) < 3 + 1; decide) | (rw [ints_length, B.len]; omega)) | (apply Ab.Get.mk; first | rfl | first | exact gU | (rw [Nat.mul_one]; exact gU)) | (apply Ab.Nm.mk; first | first | exact ints_set _ _ _ | exact Eq.trans (congrArg (fun z => List.take _ (List.drop (z * 3) ds)) (Int.toNat_natCast i)) hE | exact (show ((ec e).drop 0).take 3 = ec e from rfl) | exact nrm_) | (apply Xg.s; constructor) | (apply Ab.asm; assumption) | rfl | infer_instance | decide))
          exact X.roundN (n - (i + 1)) (by omega) ⟨i + 1, q, off, M + 1, U, t, cs, by exact ev_, by exact ev_, by exact ev_, by exact ev_, by exact ev_, by exact ev_, by exact ev_, by exact at_, by exact at_, hcs, hct, huq, hq, by exact fr_, by exact top_, B, hask2, by omega, rfl⟩
        · (repeat' (first | (apply Ab.K.ev; exact ev_) | (apply Ab.K.aops; first | (apply Xg.s; constructor) | (apply Ab.S.guardU; (case hd => rfl); (case hb => (exact ev_; done))) | apply Ab.S.guardG) | (apply Ab.K.aop; first | (first | (apply Ab.O.allocA (l := ec ⟨0, 0, 0⟩) M; (case hid => exact T.free (Nat.le_refl _)); (case hp => rfl)) | (apply Ab.O.storeAll; (case hz => rfl); (case hx => exact ev_); (case hy => exact ev_); (case hs => exact at_); (case hl => rfl); (case hc => rfl))) | (apply Og.s; constructor)) | (apply Ab.K.gk; first | (apply Xg.s; constructor) | (apply Ab.gY; case hw => assumption) | (apply Ab.gNT; case hw => assumption) | (apply Ab.gNF; case hw => assumption) | ((first | apply Ab.gD | apply Ab.gDN); all_goals (intro _ _; (first | contradiction | (exfalso; omega) | skip)))) | (apply Ab.K.awp; first | (apply Xg.s; constructor)) | (apply Ab.K.at_; exact at_) | (apply Ab.K.acall; first | assumption | exact c36 _) | (apply Ab.Rg.mk; omega) | (apply Ab.Lt.mk; first | decide | (simp; done) | (simp; omega) | first | omega | (show (0 + 3 : Nat) < 3 + 1; decide) | (rw [ints_length, B.len]; omega)) | (apply Ab.Get.mk; first | rfl | first | exact gU | (rw [Nat.mul_one]; exact gU)) | (apply Ab.Nm.mk; first | first | exact ints_set _ _ _ | exact Eq.trans (congrArg (fun z => List.take _ (List.drop (z * 3) ds)) (Int.toNat_natCast i)) hE | exact (show ((ec e).drop 0).take 3 = ec e from rfl) | exact nrm_) | (apply Xg.s; constructor) | (apply Ab.asm; assumption) | rfl | infer_instance | decide))
          exact X.roundN (n - (i + 1)) (by omega) ⟨i + 1, q, off, M + 1, U, t, cs, by exact ev_, by exact ev_, by exact ev_, by exact ev_, by exact ev_, by exact ev_, by exact ev_, by exact at_, by exact at_, hcs, hct, huq, hq, by exact fr_, by exact top_, B, hask2, by omega, rfl⟩
    · obtain rfl : i = n := by omega
      rw [hnl, List.take_length] at hask
      have B2 : Bfs l root U (cl ++ [n0]) ((cl ++ [n0]) ++ t) := by
        have := B.close (n := n0) (fun y ⟨e, he, hy⟩ => hask e he y hy)
        rwa [List.append_assoc, List.singleton_append]
      (repeat' (first | (apply Ab.K.ev; exact ev_) | (apply Ab.K.aops; first | (apply Xg.s; constructor) | (apply Ab.S.guardU; (case hd => rfl); (case hb => (exact ev_; done))) | apply Ab.S.guardG) | (apply Ab.K.aop; first | (apply Og.s; constructor)) | (apply Ab.K.gk; first | (apply Xg.s; constructor) | (apply Ab.gY; case hw => assumption) | (apply Ab.gNT; case hw => assumption) | (apply Ab.gNF; case hw => assumption) | ((first | apply Ab.gD | apply Ab.gDN); all_goals (intro _ _; (first | contradiction | (exfalso; omega) | skip)))) | (apply Ab.K.awp; first | (apply Xg.s; constructor)) | (apply Ab.K.at_; exact at_) | (apply Ab.K.acall; first | assumption | exact c36 _) | (apply Ab.Rg.mk; omega) | (apply Ab.Lt.mk; first | decide | (simp; done) | (simp; omega) | first | omega | (show (0 + 3 : Nat) < 3 + 1; decide) | (rw [ints_length, B.len]; omega)) | (apply Ab.Get.mk; first | rfl | first | exact gU | (rw [Nat.mul_one]; exact gU)) | (apply Ab.Nm.mk; first | first | exact ints_set _ _ _ | exact Eq.trans (congrArg (fun z => List.take _ (List.drop (z * 3) ds)) (Int.toNat_natCast i)) hE | exact (show ((ec e).drop 0).take 3 = ec e from rfl) | exact nrm_) | (apply Xg.s; constructor) | (apply Ab.asm; assumption) | rfl | infer_instance | decide))
      exact X.roundN (64 - (cl ++ [n0]).length) (by rw [List.length_append]; simp; omega) ⟨u, q, off, M, U, cl ++ [n0], t, cs, by exact ev_, by exact ev_, by exact ev_, a5, a6, hcs, hct, huq, hu, hq, F, T, B2, rfl⟩
end Go.Proofs.Ytnbgeodignljfaa
