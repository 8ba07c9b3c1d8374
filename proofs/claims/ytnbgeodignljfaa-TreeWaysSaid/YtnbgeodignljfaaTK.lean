/- trees: which edges may be together, the program's check with a map. -/
import Derived.Test.YtnbgeodignljfaaTF
import Derived.MapKept
namespace Go.Proofs.Ytnbgeodignljfaa
set_option linter.unusedVariables false
set_option linter.unusedSimpArgs false
set_option linter.unusedSectionVars false
open Go.RowKit Ab TP
attribute [local irreducible] AOps AOpsD AOp AWp put nargs AHeap.set At Free ACall thenQ blockQ roundQ RetQ Src bsn
theorem chk32 (m : Nat) (em : Bool) (w : World) (e : E) : (Instr.checkKey em (m + 1 + 1) 32 (.agg (ec e).toArray)).run Try.prog w = .ok () w := by
  have u3 := Try.underlying3
  have a3 := Try.isAgg3
  have z3 := Try.sizeOf3
  have ck : ∀ (a : Int) (w : World), (Instr.checkKey em (m + 1) 3 (.int .i64 a)).run Try.prog w = .ok () w := fun a w => Go.MapKept.run_checkKey u3 (by simp [Go.MapKept.IsKey]) em m
  rw [Instr.checkKey]
  simp only [Sem.run_bind, run_underlying Try.underlying32, Result.andThen_ok]
  unfold ec
  go_simp
theorem bits32 (m : Nat) (e : E) : Instr.sameBits (m + 1 + 1) (.agg (ec e).toArray) (.agg (ec e).toArray) = true := by
  rw [Instr.sameBits]
  unfold ec
  simp [Instr.sameBits]
/-- Keys: edges. -/
theorem key32 : KeyT Try.prog 32 (fun v => ∃ e : E, v = .agg (ec e).toArray) := by
  refine keyT_struct (fs := Try.prog.fieldsOf 32) (by kernel_rfl) (fun v ⟨e, h⟩ => by rw [h]; rfl) (fun v ⟨e, h⟩ => ⟨_, h⟩) (fun v em w ⟨e, h⟩ => ?_) (fun v ⟨e, h⟩ => ?_) (fun a b w ⟨e, h⟩ ⟨f, k⟩ => ?_)
  · subst h; exact chk32 9998 em w e
  · subst h; exact bits32 9998 e
  · subst h; subst k
    have u3 := Try.underlying3
    have a3 := Try.isAgg3
    have z3 := Try.sizeOf3
    have hS : Try.prog.underlying 32 = some (.struct (Try.prog.fieldsOf 32)) := by kernel_rfl
    have hp : Try.prog.stoodInHeld 32 = false := by kernel_rfl
    refine ⟨decide (e = f), ?_, ?_⟩
    · unfold Op.equal Op.maxDepth
      rw [show (10000 : Nat) = 9999 + 1 from rfl, run_equalIn_agg w 9999 32 _ _ hS hp]
      simp only [Program.fieldsOf, Try.underlying32]
      obtain ⟨a, b, c⟩ := e
      obtain ⟨a', b', c'⟩ := f
      unfold ec
      go_simp
      by_cases h1 : a = a' <;> by_cases h2 : b = b' <;> by_cases h3 : c = c' <;> simp [h1, h2, h3]
    · rw [decide_eq_true_iff]
      constructor
      · rintro rfl; rfl
      · intro h
        obtain ⟨a, b, c⟩ := e
        obtain ⟨a', b', c'⟩ := f
        simpa [ec] using h
theorem mfind_ex (k : Value) : ∀ (es : List (Value × Value)) (i : Nat), ∃ r, MFind k es i r ∧ ((r = none ∧ ∀ e ∈ es, e.1 ≠ k) ∨ ∃ j v, r = some (j, v) ∧ (k, v) ∈ es)
  | [], i => ⟨none, rfl, .inl ⟨rfl, fun e h => by cases h⟩⟩
  | e :: es, i => by
    by_cases h : e.1 = k
    · exact ⟨_, .inl ⟨h, rfl⟩, .inr ⟨i, e.2, rfl, by rw [← h]; exact List.mem_cons_self⟩⟩
    · obtain ⟨r, h1, h2⟩ := mfind_ex k es (i + 1)
      refine ⟨r, .inr ⟨h, h1⟩, ?_⟩
      rcases h2 with ⟨h3, h4⟩ | ⟨j, v, h3, h4⟩
      · exact .inl ⟨h3, fun x hx => (List.mem_cons.1 hx).elim (fun e' => by rw [e']; exact h) (h4 x)⟩
      · exact .inr ⟨j, v, h3, List.mem_cons_of_mem _ h4⟩
def mk (e : E) : Value := .agg (ec ⟨e.a, e.b, 0⟩).toArray
def mes (l : List E) : List (Value × Value) := l.map fun e => (mk e, .bool true)
theorem mes_append (a b : List E) : mes (a ++ b) = mes a ++ mes b := by simp [mes]
theorem mes_key {l : List E} : ∀ e ∈ mes l, ∃ f : E, e.1 = .agg (ec f).toArray := fun e h => by
  obtain ⟨g, _, rfl⟩ := List.mem_map.1 h
  exact ⟨_, rfl⟩
theorem mk_eq {e f : E} : mk e = mk f ↔ e.a = f.a ∧ e.b = f.b := by simp [mk, ec]
theorem mes_find {l : List E} {e : E} : (¬ (∃ g ∈ l, g.a = e.a ∧ g.b = e.b) ∧ MFind (mk e) (mes l) 0 none) ∨ ((∃ g ∈ l, g.a = e.a ∧ g.b = e.b) ∧ ∃ j, MFind (mk e) (mes l) 0 (some (j, .bool true))) := by
  obtain ⟨r, h1, h2⟩ := mfind_ex (mk e) (mes l) 0
  rcases h2 with ⟨rfl, h3⟩ | ⟨j, v, rfl, h3⟩
  · refine .inl ⟨fun ⟨g, hg, h⟩ => h3 (mk g, .bool true) (List.mem_map.2 ⟨g, hg, rfl⟩) (mk_eq.2 h), h1⟩
  · obtain ⟨g, hg, h⟩ := List.mem_map.1 h3
    injection h with h4 h5
    subst h5
    exact .inr ⟨⟨g, hg, mk_eq.1 h4⟩, j, h1⟩
theorem checkAll44 {s : AHeap} {A : Option Addr} {n c : Nat} {on : Option Nat} {l : List E} (h : EA s (.slice A n c) on l) (hn : n ≤ 512) :
    ACall Try.prog 44 [.slice A n c] s (.int .i64 (ckE l)) s := by
  have hnl : n = l.length := by obtain ⟨_, _, e⟩ := h.isl; injection e
  refine ACall.make Try.func44 rfl (by kernel_rfl) (by decide) rfl (fun N hN => ?_)
  have hT : Top N s := hN
  (repeat' (first | (apply Ab.K.ev; exact ev_) | (apply Ab.K.aops; first | (apply Xg.s; constructor) | (apply Ab.S.guardU; (case hd => rfl); (case hb => (exact ev_; done))) | apply Ab.S.guardG) | (apply Ab.K.aop; first | (apply Ab.O.makeMap N; (case hid => exact hT.free (Nat.le_refl _))) | (apply Og.s; constructor)) | (apply Ab.K.gk; first | (apply Xg.s; constructor) | (apply Ab.gY; case hw => assumption) | (apply Ab.gNT; case hw => assumption) | (apply Ab.gNF; case hw => assumption) | ((first | apply Ab.gD | apply Ab.gDN); all_goals (intro _ _; (first | contradiction | (exfalso; omega) | skip)))) | (apply Ab.K.awp; first | (apply Xg.s; constructor)) | (apply Ab.K.at_; exact at_) | (apply Ab.K.acall; first | assumption | fail) | (apply Ab.Rg.mk; omega) | (apply Ab.Lt.mk; first | decide | (simp; done) | (simp; omega) | fail) | (apply Ab.Get.mk; first | rfl | fail) | (apply Ab.Nm.mk; first | exact nrm_) | (apply Xg.s; constructor) | (apply Ab.asm; assumption) | rfl | infer_instance | decide))
  refine AWp.loop (fun kk tm s1 => ∃ (i M : Nat), Ev tm (.tmp 0) (.slice A n c) ∧ Ev tm (.tmp 3) (.map (some N)) ∧ Ev tm (.tmp 8) (.slice A n c) ∧ Ev tm (.tmp 9) (.int .i64 n) ∧ Ev tm (.tmp 10) (.int .i64 i) ∧ At s1 N (.map (mes (l.take i))) ∧ Fr s1 s [] ∧ Top M s1 ∧ (∀ e ∈ l.take i, e.may) ∧ Apart (l.take i) ∧ i ≤ n ∧ kk = n - i) n ?_ ?_
  · exact ⟨0, N + 1, by exact ev_, by exact ev_, by exact ev_, by exact ev_, by exact ev_, At.hit, by exact fr_, hT.new, (fun e he => by cases he), List.Pairwise.nil, by omega, rfl⟩
  rintro kk tm s1 ⟨i, M, e0, e3, e8, e9, e10, a3, F, T, hmay, hap, hi, hkk⟩
  have hNM := T.lt a3
  by_cases hin : i < n
  · have hi' : l[i]? = some (l[i]'(by omega)) := List.getElem?_eq_getElem (by omega)
    obtain ⟨e, hee⟩ : ∃ e, e = l[i]'(by omega) := ⟨_, rfl⟩
    rw [← hee] at hi'
    have htk : l.take (i + 1) = l.take i ++ [e] := by rw [List.take_add_one, hi']; rfl
    obtain ⟨q, rw1, cs, rfl, hon, _, hq, _, hE, _⟩ := (h.fr F).elt hi'
    have hqN := h.lt hT q hon
    have c51 : ∀ s : AHeap, ACall Try.prog 51 [.agg (ec e).toArray] s (.int .i64 (mayE e)) s := fun s => check51



    by_cases hm : e.may
    · rw [may_y hm] at c51
      rcases mes_find (l := l.take i) (e := e) with ⟨hno, hf⟩ | ⟨hyes, j, hf⟩
      · have hap2 : Apart (l.take (i + 1)) := by rw [htk, apart_snoc]; exact ⟨hap, hno⟩
        have hmay2 : ∀ f ∈ l.take (i + 1), f.may := fun f hf2 => by
          rw [htk] at hf2
          exact (List.mem_append.1 hf2).elim (hmay f) (fun h => by rw [List.mem_singleton.1 h]; exact hm)
        (repeat' (first | (apply Ab.K.ev; exact ev_) | (apply Ab.K.aops; first | (apply Xg.s; constructor) | (apply Ab.S.guardU; (case hd => rfl); (case hb => (exact ev_; done))) | apply Ab.S.guardG) | (apply Ab.K.aop; first | (first | (first | (apply Ab.O.allocA (l := ec ⟨0, 0, 0⟩) M; (case hid => exact T.free (Nat.le_refl _)); (case hp => rfl)) | (apply Ab.O.allocA (l := ec ⟨0, 0, 0⟩) (M + 1); (case hid => exact free_); (case hp => rfl)) | (apply Ab.O.storeAll; (case hz => rfl); (case hx => exact ev_); (case hy => exact ev_); (case hs => exact at_); (case hl => rfl); (case hc => rfl))) | (apply Ab.O.lookup (D := fun v => ∃ e : E, v = .agg (ec e).toArray) (k := mk e) (r := none); (case hx => exact ev_); (case hi => exact ev_); (case hs => exact at_); (case hz => rfl); (case hK => exact key32); (case hd => exact ⟨_, rfl⟩); (case he => exact mes_key); (case hf => exact hf)) | (apply Ab.O.mapUpdate (D := fun v => ∃ e : E, v = .agg (ec e).toArray) (k := mk e) (r := none); (case hm => exact ev_); (case hi => exact ev_); (case hx => exact ev_); (case hs => exact at_); (case hK => exact key32); (case hd => exact ⟨_, rfl⟩); (case he => exact mes_key); (case hf => exact hf); (case hn => rfl))) | (apply Og.s; constructor)) | (apply Ab.K.gk; first | (apply Xg.s; constructor) | (apply Ab.gY; case hw => assumption) | (apply Ab.gNT; case hw => assumption) | (apply Ab.gNF; case hw => assumption) | ((first | apply Ab.gD | apply Ab.gDN); all_goals (intro _ _; (first | contradiction | (exfalso; omega) | skip)))) | (apply Ab.K.awp; first | (apply Xg.s; constructor)) | (apply Ab.K.at_; exact at_) | (apply Ab.K.acall; first | assumption | exact c51 _) | (apply Ab.Rg.mk; omega) | (apply Ab.Lt.mk; first | decide | (simp; done) | (simp; omega) | first | omega | (show (0 + 3 : Nat) < 3 + 1; decide) | (show (_ : Nat) < 3; decide)) | (apply Ab.Get.mk; first | rfl | fail) | (apply Ab.Nm.mk; first | first | exact Eq.trans (congrArg (fun z => List.take _ (List.drop (z * 3) cs)) (Int.toNat_natCast i)) hE | exact (show ((ec e).drop 0).take 3 = ec e from rfl) | exact (show ((ec ⟨e.a, e.b, 0⟩).drop 0).take 3 = ec ⟨e.a, e.b, 0⟩ from rfl) | exact nrm_) | (apply Xg.s; constructor) | (apply Ab.asm; assumption) | rfl | infer_instance | decide))
        refine X.roundN (n - (i + 1)) (by omega) ⟨i + 1, M + 2, by exact ev_, by exact ev_, by exact ev_, by exact ev_, by exact ev_, by rw [htk, mes_append]; exact At.hit, ?_, ?_, hmay2, hap2, by omega, rfl⟩
        · exact Fr.new (hT.free (Nat.le_refl _)) (by exact fr_)
        · exact Top.set (by exact top_) (by omega)
      · rw [ck_n fun g => (apart_snoc.1 (htk ▸ (g.2.sublist (List.take_sublist (i + 1) l)))).2 hyes]
        (repeat' (first | (apply Ab.K.ev; exact ev_) | (apply Ab.K.aops; first | (apply Xg.s; constructor) | (apply Ab.S.guardU; (case hd => rfl); (case hb => (exact ev_; done))) | apply Ab.S.guardG) | (apply Ab.K.aop; first | (first | (first | (apply Ab.O.allocA (l := ec ⟨0, 0, 0⟩) M; (case hid => exact T.free (Nat.le_refl _)); (case hp => rfl)) | (apply Ab.O.allocA (l := ec ⟨0, 0, 0⟩) (M + 1); (case hid => exact free_); (case hp => rfl)) | (apply Ab.O.storeAll; (case hz => rfl); (case hx => exact ev_); (case hy => exact ev_); (case hs => exact at_); (case hl => rfl); (case hc => rfl))) | (apply Ab.O.lookup (D := fun v => ∃ e : E, v = .agg (ec e).toArray) (k := mk e) (r := some (j, .bool true)); (case hx => exact ev_); (case hi => exact ev_); (case hs => exact at_); (case hz => rfl); (case hK => exact key32); (case hd => exact ⟨_, rfl⟩); (case he => exact mes_key); (case hf => exact hf))) | (apply Og.s; constructor)) | (apply Ab.K.gk; first | (apply Xg.s; constructor) | (apply Ab.gY; case hw => assumption) | (apply Ab.gNT; case hw => assumption) | (apply Ab.gNF; case hw => assumption) | ((first | apply Ab.gD | apply Ab.gDN); all_goals (intro _ _; (first | contradiction | (exfalso; omega) | skip)))) | (apply Ab.K.awp; first | (apply Xg.s; constructor)) | (apply Ab.K.at_; exact at_) | (apply Ab.K.acall; first | assumption | exact c51 _) | (apply Ab.Rg.mk; omega) | (apply Ab.Lt.mk; first | decide | (simp; done) | (simp; omega) | first | omega | (show (0 + 3 : Nat) < 3 + 1; decide) | (show (_ : Nat) < 3; decide)) | (apply Ab.Get.mk; first | rfl | fail) | (apply Ab.Nm.mk; first | first | exact Eq.trans (congrArg (fun z => List.take _ (List.drop (z * 3) cs)) (Int.toNat_natCast i)) hE | exact (show ((ec e).drop 0).take 3 = ec e from rfl) | exact (show ((ec ⟨e.a, e.b, 0⟩).drop 0).take 3 = ec ⟨e.a, e.b, 0⟩ from rfl) | exact nrm_) | (apply Xg.s; constructor) | (apply Ab.asm; assumption) | rfl | infer_instance | decide))
        all_goals ((first | apply RetQ.ret | apply RetQ.normal); (case he => exact evr_); (case hg => rfl))
        all_goals first | rfl | (apply Keeps.fr; (case h => exact fr_); (case hv => exact plR.nm rfl))
    · rw [may_n hm] at c51
      rw [ck_n fun g => hm (g.1 e (List.mem_of_getElem? hi'))]
      (repeat' (first | (apply Ab.K.ev; exact ev_) | (apply Ab.K.aops; first | (apply Xg.s; constructor) | (apply Ab.S.guardU; (case hd => rfl); (case hb => (exact ev_; done))) | apply Ab.S.guardG) | (apply Ab.K.aop; first | (first | (apply Ab.O.allocA (l := ec ⟨0, 0, 0⟩) M; (case hid => exact T.free (Nat.le_refl _)); (case hp => rfl)) | (apply Ab.O.allocA (l := ec ⟨0, 0, 0⟩) (M + 1); (case hid => exact free_); (case hp => rfl)) | (apply Ab.O.storeAll; (case hz => rfl); (case hx => exact ev_); (case hy => exact ev_); (case hs => exact at_); (case hl => rfl); (case hc => rfl))) | (apply Og.s; constructor)) | (apply Ab.K.gk; first | (apply Xg.s; constructor) | (apply Ab.gY; case hw => assumption) | (apply Ab.gNT; case hw => assumption) | (apply Ab.gNF; case hw => assumption) | ((first | apply Ab.gD | apply Ab.gDN); all_goals (intro _ _; (first | contradiction | (exfalso; omega) | skip)))) | (apply Ab.K.awp; first | (apply Xg.s; constructor)) | (apply Ab.K.at_; exact at_) | (apply Ab.K.acall; first | assumption | exact c51 _) | (apply Ab.Rg.mk; omega) | (apply Ab.Lt.mk; first | decide | (simp; done) | (simp; omega) | first | omega | (show (0 + 3 : Nat) < 3 + 1; decide) | (show (_ : Nat) < 3; decide)) | (apply Ab.Get.mk; first | rfl | fail) | (apply Ab.Nm.mk; first | first | exact Eq.trans (congrArg (fun z => List.take _ (List.drop (z * 3) cs)) (Int.toNat_natCast i)) hE | exact (show ((ec e).drop 0).take 3 = ec e from rfl) | exact (show ((ec ⟨e.a, e.b, 0⟩).drop 0).take 3 = ec ⟨e.a, e.b, 0⟩ from rfl) | exact nrm_) | (apply Xg.s; constructor) | (apply Ab.asm; assumption) | rfl | infer_instance | decide))
      all_goals ((first | apply RetQ.ret | apply RetQ.normal); (case he => exact evr_); (case hg => rfl))
      all_goals first | rfl | (apply Keeps.fr; (case h => exact fr_); (case hv => exact plR.nm rfl))
  · obtain rfl : i = n := by omega
    rw [hnl, List.take_length] at hap hmay
    rw [ck_y ⟨hmay, hap⟩]
    (repeat' (first | (apply Ab.K.ev; exact ev_) | (apply Ab.K.aops; first | (apply Xg.s; constructor) | (apply Ab.S.guardU; (case hd => rfl); (case hb => (exact ev_; done))) | apply Ab.S.guardG) | (apply Ab.K.aop; first | (apply Og.s; constructor)) | (apply Ab.K.gk; first | (apply Xg.s; constructor) | (apply Ab.gY; case hw => assumption) | (apply Ab.gNT; case hw => assumption) | (apply Ab.gNF; case hw => assumption) | ((first | apply Ab.gD | apply Ab.gDN); all_goals (intro _ _; (first | contradiction | (exfalso; omega) | skip)))) | (apply Ab.K.awp; first | (apply Xg.s; constructor)) | (apply Ab.K.at_; exact at_) | (apply Ab.K.acall; first | assumption | exact c51 _) | (apply Ab.Rg.mk; omega) | (apply Ab.Lt.mk; first | decide | (simp; done) | (simp; omega) | first | omega | (show (0 + 3 : Nat) < 3 + 1; decide) | (show (_ : Nat) < 3; decide)) | (apply Ab.Get.mk; first | rfl | fail) | (apply Ab.Nm.mk; first | first | exact Eq.trans (congrArg (fun z => List.take _ (List.drop (z * 3) cs)) (Int.toNat_natCast i)) hE | exact (show ((ec e).drop 0).take 3 = ec e from rfl) | exact (show ((ec ⟨e.a, e.b, 0⟩).drop 0).take 3 = ec ⟨e.a, e.b, 0⟩ from rfl) | exact nrm_) | (apply Xg.s; constructor) | (apply Ab.asm; assumption) | rfl | infer_instance | decide))
    all_goals ((first | apply RetQ.ret | apply RetQ.normal); (case he => exact evr_); (case hg => rfl))
    all_goals first | rfl | (apply Keeps.fr; (case h => exact fr_); (case hv => exact plR.nm rfl))
end Go.Proofs.Ytnbgeodignljfaa
