/- texts of this claim, one behind the other: TK, VE, TH, TL, TM. -/
import Derived.Test.YtdbnpghckgmaoaaM10
import Derived.Test.YtdbnpghckgmaoaaM13
import Derived.Test.YtdbnpghckgmaoaaM17
import Derived.Test.YtdbnpghckgmaoaaM19
import Derived.Test.YtdbnpghckgmaoaaM20
import Derived.Test.YtdbnpghckgmaoaaM21
import Derived.MapKept

/- trees: which edges may be together, the program's check with a map. -/
namespace Go.Proofs.Ytdbnpghckgmaoaa
set_option linter.unusedVariables false
set_option linter.unusedSimpArgs false
set_option linter.unusedSectionVars false
open Go.RowKit Ab TP
attribute [local irreducible] AOps AOpsD AOp AWp put nargs AHeap.set At Free ACall thenQ blockQ roundQ RetQ Src bsn
theorem chk32 (m : Nat) (em : Bool) (w : World) (e : E) : (Instr.checkKey em (m + 1 + 1) 43 (.agg (ec e).toArray)).run Try.prog w = .ok () w := by
  have u3 := Try.underlying3
  have a3 := Try.isAgg3
  have z3 := Try.sizeOf3
  have ck : ∀ (a : Int) (w : World), (Instr.checkKey em (m + 1) 3 (.int .i64 a)).run Try.prog w = .ok () w := fun a w => Go.MapKept.run_checkKey u3 (by simp [Go.MapKept.IsKey]) em m
  rw [Instr.checkKey]
  simp only [Sem.run_bind, run_underlying Try.underlying43, Result.andThen_ok]
  unfold ec
  go_simp
theorem bits32 (m : Nat) (e : E) : Instr.sameBits (m + 1 + 1) (.agg (ec e).toArray) (.agg (ec e).toArray) = true := by
  rw [Instr.sameBits]
  unfold ec
  simp [Instr.sameBits]
/-- Keys: edges. -/
theorem key32 : KeyT Try.prog 43 (fun v => ∃ e : E, v = .agg (ec e).toArray) := by
  refine keyT_struct (fs := Try.prog.fieldsOf 43) (by kernel_rfl) (fun v ⟨e, h⟩ => by rw [h]; rfl) (fun v ⟨e, h⟩ => ⟨_, h⟩) (fun v em w ⟨e, h⟩ => ?_) (fun v ⟨e, h⟩ => ?_) (fun a b w ⟨e, h⟩ ⟨f, k⟩ => ?_)
  · subst h; exact chk32 9998 em w e
  · subst h; exact bits32 9998 e
  · subst h; subst k
    have u3 := Try.underlying3
    have a3 := Try.isAgg3
    have z3 := Try.sizeOf3
    have hS : Try.prog.underlying 43 = some (.struct (Try.prog.fieldsOf 43)) := by kernel_rfl
    have hp : Try.prog.stoodInHeld 43 = false := by kernel_rfl
    refine ⟨decide (e = f), ?_, ?_⟩
    · unfold Op.equal Op.maxDepth
      rw [show (10000 : Nat) = 9999 + 1 from rfl, run_equalIn_agg w 9999 43 _ _ hS hp]
      simp only [Program.fieldsOf, Try.underlying43]
      obtain ⟨a, b, c⟩ := e
      obtain ⟨a', b', c'⟩ := f
      unfold ec
      go_simp
      by_cases h1 : a = a' <;> by_cases h2 : b = b' <;> by_cases h3 : c = c' <;> simp [h1, h2, h3]
    · rw [decide_eq_true_iff]
      constructor
      · rintro rfl; rfl
      · intro h
        obtain ⟨a, b, c⟩ := e
        obtain ⟨a', b', c'⟩ := f
        simpa [ec] using h
theorem mfind_ex (k : Value) : ∀ (es : List (Value × Value)) (i : Nat), ∃ r, MFind k es i r ∧ ((r = none ∧ ∀ e ∈ es, e.1 ≠ k) ∨ ∃ j v, r = some (j, v) ∧ (k, v) ∈ es)
  | [], i => ⟨none, rfl, .inl ⟨rfl, fun e h => by cases h⟩⟩
  | e :: es, i => by
    by_cases h : e.1 = k
    · exact ⟨_, .inl ⟨h, rfl⟩, .inr ⟨i, e.2, rfl, by rw [← h]; exact List.mem_cons_self⟩⟩
    · obtain ⟨r, h1, h2⟩ := mfind_ex k es (i + 1)
      refine ⟨r, .inr ⟨h, h1⟩, ?_⟩
      rcases h2 with ⟨h3, h4⟩ | ⟨j, v, h3, h4⟩
      · exact .inl ⟨h3, fun x hx => (List.mem_cons.1 hx).elim (fun e' => by rw [e']; exact h) (h4 x)⟩
      · exact .inr ⟨j, v, h3, List.mem_cons_of_mem _ h4⟩
def mk (e : E) : Value := .agg (ec ⟨e.a, e.b, 0⟩).toArray
def mes (l : List E) : List (Value × Value) := l.map fun e => (mk e, .bool true)
theorem mes_append (a b : List E) : mes (a ++ b) = mes a ++ mes b := by simp [mes]
theorem mes_key {l : List E} : ∀ e ∈ mes l, ∃ f : E, e.1 = .agg (ec f).toArray := fun e h => by
  obtain ⟨g, _, rfl⟩ := List.mem_map.1 h
  exact ⟨_, rfl⟩
theorem mk_eq {e f : E} : mk e = mk f ↔ e.a = f.a ∧ e.b = f.b := by simp [mk, ec]
theorem mes_find {l : List E} {e : E} : (¬ (∃ g ∈ l, g.a = e.a ∧ g.b = e.b) ∧ MFind (mk e) (mes l) 0 none) ∨ ((∃ g ∈ l, g.a = e.a ∧ g.b = e.b) ∧ ∃ j, MFind (mk e) (mes l) 0 (some (j, .bool true))) := by
  obtain ⟨r, h1, h2⟩ := mfind_ex (mk e) (mes l) 0
  rcases h2 with ⟨rfl, h3⟩ | ⟨j, v, rfl, h3⟩
  · refine .inl ⟨fun ⟨g, hg, h⟩ => h3 (mk g, .bool true) (List.mem_map.2 ⟨g, hg, rfl⟩) (mk_eq.2 h), h1⟩
  · obtain ⟨g, hg, h⟩ := List.mem_map.1 h3
    injection h with h4 h5
    subst h5
    exact .inr ⟨⟨g, hg, mk_eq.1 h4⟩, j, h1⟩
theorem checkAll44 {s : AHeap} {A : Option Addr} {n c : Nat} {on : Option Nat} {l : List E} (h : EA s (.slice A n c) on l) (hn : n ≤ 512) :
    ACall Try.prog 46 [.slice A n c] s (.int .i64 (ckE l)) s := by
  have hnl : n = l.length := by obtain ⟨_, _, e⟩ := h.isl; injection e
  refine ACall.make Try.func46 rfl (by kernel_rfl) (by decide) rfl (fun N hN => ?_)
  have hT : Top N s := hN
  (repeat' (first | (apply Ab.K.ev; exact ev_) | (apply Ab.K.aops; first | (apply Xg.s; constructor) | (apply Ab.S.guardU; (case hd => rfl); (case hb => (exact ev_; done))) | apply Ab.S.guardG) | (apply Ab.K.aop; first | (apply Ab.O.makeMap N; (case hid => exact hT.free (Nat.le_refl _))) | (apply Og.s; constructor)) | (apply Ab.K.gk; first | (apply Xg.s; constructor) | (apply Ab.gY; case hw => assumption) | (apply Ab.gNT; case hw => assumption) | (apply Ab.gNF; case hw => assumption) | ((first | apply Ab.gD | apply Ab.gDN); all_goals (intro _ _; (first | contradiction | (exfalso; omega) | skip)))) | (apply Ab.K.awp; first | (apply Xg.s; constructor)) | (apply Ab.K.at_; exact at_) | (apply Ab.K.acall; first | assumption | fail) | (apply Ab.Rg.mk; omega) | (apply Ab.Lt.mk; first | decide | (simp; done) | (simp; omega) | fail) | (apply Ab.Get.mk; first | rfl | fail) | (apply Ab.Nm.mk; first | exact nrm_) | (apply Xg.s; constructor) | (apply Ab.asm; assumption) | rfl | infer_instance | decide))
  refine AWp.loop (fun kk tm s1 => ∃ (i M : Nat), Ev tm (.tmp 0) (.slice A n c) ∧ Ev tm (.tmp 3) (.map (some N)) ∧ Ev tm (.tmp 8) (.slice A n c) ∧ Ev tm (.tmp 9) (.int .i64 n) ∧ Ev tm (.tmp 10) (.int .i64 i) ∧ At s1 N (.map (mes (l.take i))) ∧ Fr s1 s [] ∧ Top M s1 ∧ (∀ e ∈ l.take i, e.may) ∧ Apart (l.take i) ∧ i ≤ n ∧ kk = n - i) n ?_ ?_
  · exact ⟨0, N + 1, by exact ev_, by exact ev_, by exact ev_, by exact ev_, by exact ev_, At.hit, by exact fr_, hT.new, (fun e he => by cases he), List.Pairwise.nil, by omega, rfl⟩
  rintro kk tm s1 ⟨i, M, e0, e3, e8, e9, e10, a3, F, T, hmay, hap, hi, hkk⟩
  have hNM := T.lt a3
  by_cases hin : i < n
  · have hi' : l[i]? = some (l[i]'(by omega)) := List.getElem?_eq_getElem (by omega)
    obtain ⟨e, hee⟩ : ∃ e, e = l[i]'(by omega) := ⟨_, rfl⟩
    rw [← hee] at hi'
    have htk : l.take (i + 1) = l.take i ++ [e] := by rw [List.take_add_one, hi']; rfl
    obtain ⟨q, rw1, cs, rfl, hon, _, hq, _, hE, _⟩ := (h.fr F).elt hi'
    have hqN := h.lt hT q hon
    have c51 : ∀ s : AHeap, ACall Try.prog 58 [.agg (ec e).toArray] s (.int .i64 (mayE e)) s := fun s => check51



    by_cases hm : e.may
    · rw [may_y hm] at c51
      rcases mes_find (l := l.take i) (e := e) with ⟨hno, hf⟩ | ⟨hyes, j, hf⟩
      · have hap2 : Apart (l.take (i + 1)) := by rw [htk, apart_snoc]; exact ⟨hap, hno⟩
        have hmay2 : ∀ f ∈ l.take (i + 1), f.may := fun f hf2 => by
          rw [htk] at hf2
          exact (List.mem_append.1 hf2).elim (hmay f) (fun h => by rw [List.mem_singleton.1 h]; exact hm)
        (repeat' (first | (apply Ab.K.ev; exact ev_) | (apply Ab.K.aops; first | (apply Xg.s; constructor) | (apply Ab.S.guardU; (case hd => rfl); (case hb => (exact ev_; done))) | apply Ab.S.guardG) | (apply Ab.K.aop; first | (first | (first | (apply Ab.O.allocA (l := ec ⟨0, 0, 0⟩) M; (case hid => exact T.free (Nat.le_refl _)); (case hp => rfl)) | (apply Ab.O.allocA (l := ec ⟨0, 0, 0⟩) (M + 1); (case hid => exact free_); (case hp => rfl)) | (apply Ab.O.storeAll; (case hz => rfl); (case hx => exact ev_); (case hy => exact ev_); (case hs => exact at_); (case hl => rfl); (case hc => rfl))) | (apply Ab.O.lookup (D := fun v => ∃ e : E, v = .agg (ec e).toArray) (k := mk e) (r := none); (case hx => exact ev_); (case hi => exact ev_); (case hs => exact at_); (case hz => rfl); (case hK => exact key32); (case hd => exact ⟨_, rfl⟩); (case he => exact mes_key); (case hf => exact hf)) | (apply Ab.O.mapUpdate (D := fun v => ∃ e : E, v = .agg (ec e).toArray) (k := mk e) (r := none); (case hm => exact ev_); (case hi => exact ev_); (case hx => exact ev_); (case hs => exact at_); (case hK => exact key32); (case hd => exact ⟨_, rfl⟩); (case he => exact mes_key); (case hf => exact hf); (case hn => rfl))) | (apply Og.s; constructor)) | (apply Ab.K.gk; first | (apply Xg.s; constructor) | (apply Ab.gY; case hw => assumption) | (apply Ab.gNT; case hw => assumption) | (apply Ab.gNF; case hw => assumption) | ((first | apply Ab.gD | apply Ab.gDN); all_goals (intro _ _; (first | contradiction | (exfalso; omega) | skip)))) | (apply Ab.K.awp; first | (apply Xg.s; constructor)) | (apply Ab.K.at_; exact at_) | (apply Ab.K.acall; first | assumption | exact c51 _) | (apply Ab.Rg.mk; omega) | (apply Ab.Lt.mk; first | decide | (simp; done) | (simp; omega) | first | omega | (show (0 + 3 : Nat) < 3 + 1; decide) | (show (_ : Nat) < 3; decide)) | (apply Ab.Get.mk; first | rfl | fail) | (apply Ab.Nm.mk; first | first | exact Eq.trans (congrArg (fun z => List.take _ (List.drop (z * 3) cs)) (Int.toNat_natCast i)) hE | exact (show ((ec e).drop 0).take 3 = ec e from rfl) | exact (show ((ec ⟨e.a, e.b, 0⟩).drop 0).take 3 = ec ⟨e.a, e.b, 0⟩ from rfl) | exact nrm_) | (apply Xg.s; constructor) | (apply Ab.asm; assumption) | rfl | infer_instance | decide))
        refine X.roundN (n - (i + 1)) (by omega) ⟨i + 1, M + 2, by exact ev_, by exact ev_, by exact ev_, by exact ev_, by exact ev_, by rw [htk, mes_append]; exact At.hit, ?_, ?_, hmay2, hap2, by omega, rfl⟩
        · exact Fr.new (hT.free (Nat.le_refl _)) (by exact fr_)
        · exact Top.set (by exact top_) (by omega)
      · rw [ck_n fun g => (apart_snoc.1 (htk ▸ (g.2.sublist (List.take_sublist (i + 1) l)))).2 hyes]
        (repeat' (first | (apply Ab.K.ev; exact ev_) | (apply Ab.K.aops; first | (apply Xg.s; constructor) | (apply Ab.S.guardU; (case hd => rfl); (case hb => (exact ev_; done))) | apply Ab.S.guardG) | (apply Ab.K.aop; first | (first | (first | (apply Ab.O.allocA (l := ec ⟨0, 0, 0⟩) M; (case hid => exact T.free (Nat.le_refl _)); (case hp => rfl)) | (apply Ab.O.allocA (l := ec ⟨0, 0, 0⟩) (M + 1); (case hid => exact free_); (case hp => rfl)) | (apply Ab.O.storeAll; (case hz => rfl); (case hx => exact ev_); (case hy => exact ev_); (case hs => exact at_); (case hl => rfl); (case hc => rfl))) | (apply Ab.O.lookup (D := fun v => ∃ e : E, v = .agg (ec e).toArray) (k := mk e) (r := some (j, .bool true)); (case hx => exact ev_); (case hi => exact ev_); (case hs => exact at_); (case hz => rfl); (case hK => exact key32); (case hd => exact ⟨_, rfl⟩); (case he => exact mes_key); (case hf => exact hf))) | (apply Og.s; constructor)) | (apply Ab.K.gk; first | (apply Xg.s; constructor) | (apply Ab.gY; case hw => assumption) | (apply Ab.gNT; case hw => assumption) | (apply Ab.gNF; case hw => assumption) | ((first | apply Ab.gD | apply Ab.gDN); all_goals (intro _ _; (first | contradiction | (exfalso; omega) | skip)))) | (apply Ab.K.awp; first | (apply Xg.s; constructor)) | (apply Ab.K.at_; exact at_) | (apply Ab.K.acall; first | assumption | exact c51 _) | (apply Ab.Rg.mk; omega) | (apply Ab.Lt.mk; first | decide | (simp; done) | (simp; omega) | first | omega | (show (0 + 3 : Nat) < 3 + 1; decide) | (show (_ : Nat) < 3; decide)) | (apply Ab.Get.mk; first | rfl | fail) | (apply Ab.Nm.mk; first | first | exact Eq.trans (congrArg (fun z => List.take _ (List.drop (z * 3) cs)) (Int.toNat_natCast i)) hE | exact (show ((ec e).drop 0).take 3 = ec e from rfl) | exact (show ((ec ⟨e.a, e.b, 0⟩).drop 0).take 3 = ec ⟨e.a, e.b, 0⟩ from rfl) | exact nrm_) | (apply Xg.s; constructor) | (apply Ab.asm; assumption) | rfl | infer_instance | decide))
        all_goals ((first | apply RetQ.ret | apply RetQ.normal); (case he => exact evr_); (case hg => rfl))
        all_goals first | rfl | (apply Keeps.fr; (case h => exact fr_); (case hv => exact plR.nm rfl))
    · rw [may_n hm] at c51
      rw [ck_n fun g => hm (g.1 e (List.mem_of_getElem? hi'))]
      (repeat' (first | (apply Ab.K.ev; exact ev_) | (apply Ab.K.aops; first | (apply Xg.s; constructor) | (apply Ab.S.guardU; (case hd => rfl); (case hb => (exact ev_; done))) | apply Ab.S.guardG) | (apply Ab.K.aop; first | (first | (apply Ab.O.allocA (l := ec ⟨0, 0, 0⟩) M; (case hid => exact T.free (Nat.le_refl _)); (case hp => rfl)) | (apply Ab.O.allocA (l := ec ⟨0, 0, 0⟩) (M + 1); (case hid => exact free_); (case hp => rfl)) | (apply Ab.O.storeAll; (case hz => rfl); (case hx => exact ev_); (case hy => exact ev_); (case hs => exact at_); (case hl => rfl); (case hc => rfl))) | (apply Og.s; constructor)) | (apply Ab.K.gk; first | (apply Xg.s; constructor) | (apply Ab.gY; case hw => assumption) | (apply Ab.gNT; case hw => assumption) | (apply Ab.gNF; case hw => assumption) | ((first | apply Ab.gD | apply Ab.gDN); all_goals (intro _ _; (first | contradiction | (exfalso; omega) | skip)))) | (apply Ab.K.awp; first | (apply Xg.s; constructor)) | (apply Ab.K.at_; exact at_) | (apply Ab.K.acall; first | assumption | exact c51 _) | (apply Ab.Rg.mk; omega) | (apply Ab.Lt.mk; first | decide | (simp; done) | (simp; omega) | first | omega | (show (0 + 3 : Nat) < 3 + 1; decide) | (show (_ : Nat) < 3; decide)) | (apply Ab.Get.mk; first | rfl | fail) | (apply Ab.Nm.mk; first | first | exact Eq.trans (congrArg (fun z => List.take _ (List.drop (z * 3) cs)) (Int.toNat_natCast i)) hE | exact (show ((ec e).drop 0).take 3 = ec e from rfl) | exact (show ((ec ⟨e.a, e.b, 0⟩).drop 0).take 3 = ec ⟨e.a, e.b, 0⟩ from rfl) | exact nrm_) | (apply Xg.s; constructor) | (apply Ab.asm; assumption) | rfl | infer_instance | decide))
      all_goals ((first | apply RetQ.ret | apply RetQ.normal); (case he => exact evr_); (case hg => rfl))
      all_goals first | rfl | (apply Keeps.fr; (case h => exact fr_); (case hv => exact plR.nm rfl))
  · obtain rfl : i = n := by omega
    rw [hnl, List.take_length] at hap hmay
    rw [ck_y ⟨hmay, hap⟩]
    (repeat' (first | (apply Ab.K.ev; exact ev_) | (apply Ab.K.aops; first | (apply Xg.s; constructor) | (apply Ab.S.guardU; (case hd => rfl); (case hb => (exact ev_; done))) | apply Ab.S.guardG) | (apply Ab.K.aop; first | (apply Og.s; constructor)) | (apply Ab.K.gk; first | (apply Xg.s; constructor) | (apply Ab.gY; case hw => assumption) | (apply Ab.gNT; case hw => assumption) | (apply Ab.gNF; case hw => assumption) | ((first | apply Ab.gD | apply Ab.gDN); all_goals (intro _ _; (first | contradiction | (exfalso; omega) | skip)))) | (apply Ab.K.awp; first | (apply Xg.s; constructor)) | (apply Ab.K.at_; exact at_) | (apply Ab.K.acall; first | assumption | exact c51 _) | (apply Ab.Rg.mk; omega) | (apply Ab.Lt.mk; first | decide | (simp; done) | (simp; omega) | first | omega | (show (0 + 3 : Nat) < 3 + 1; decide) | (show (_ : Nat) < 3; decide)) | (apply Ab.Get.mk; first | rfl | fail) | (apply Ab.Nm.mk; first | first | exact Eq.trans (congrArg (fun z => List.take _ (List.drop (z * 3) cs)) (Int.toNat_natCast i)) hE | exact (show ((ec e).drop 0).take 3 = ec e from rfl) | exact (show ((ec ⟨e.a, e.b, 0⟩).drop 0).take 3 = ec ⟨e.a, e.b, 0⟩ from rfl) | exact nrm_) | (apply Xg.s; constructor) | (apply Ab.asm; assumption) | rfl | infer_instance | decide))
    all_goals ((first | apply RetQ.ret | apply RetQ.normal); (case he => exact evr_); (case hg => rfl))
    all_goals first | rfl | (apply Keeps.fr; (case h => exact fr_); (case hv => exact plR.nm rfl))
end Go.Proofs.Ytdbnpghckgmaoaa

/- views: the links that both ends know, by the program. -/
namespace Go.Proofs.Ytdbnpghckgmaoaa
set_option linter.unusedVariables false
set_option linter.unusedSimpArgs false
set_option linter.unusedSectionVars false
open Go.RowKit Ab TP VP
theorem KA.newL {s s' : AHeap} {v : Value} {k : Nat} {l : List Kn} (h : NewL s 5 v k (kcs l) s') (hk : k = l.length) : ∃ on, KA s' v on l := by
  subst hk
  rcases h with ⟨hk, _, rfl, rfl⟩ | ⟨u, _, rfl, _, rfl⟩
  · obtain rfl := List.length_eq_zero_iff.1 hk
    exact ⟨none, .nil⟩
  · exact ⟨some u, KA.own At.hit⟩
attribute [local irreducible] AOps AOpsD AOp AWp put nargs AHeap.set At Free ACall ACallE thenQ blockQ roundQ RetQ RetE Src Gr

theorem inner_err {s : AHeap} {A B : Option Addr} {n c m d : Nat} {on ol : Option Nat} {nodes : List Int} {L : List Kn} (hN : NA s (.slice A n c) on nodes) (hL : KA s (.slice B m d) ol L) (hn : n ≤ 100000) (hm : m ≤ 100000) (hno : mvB nodes L = false) :
    ACall Try.prog 43 [.agg #[.slice A n c, .slice B m d]] s (.tuple #[.slice none 0 0, .int .i64 1]) s := by
  refine ACall.make Try.func43 rfl (by kernel_rfl) (by decide) rfl (fun N hN0 => ?_)
  have hT : Top N s := hN0
  have F1 : Fr (s.set N (.cells true 1 [.slice A n c, .slice B m d])) s [] := Fr.new (hT.free (Nat.le_refl _)) (Fr.refl _ _)
  have c54 := checkV (hN.fr F1) (hL.fr F1) hn hm
  rw [hno] at c54


  (repeat' (first | (apply Ab.K.ev; exact ev_) | (apply Ab.K.aops; first | (apply Xg.s; constructor) | (apply Ab.S.guardU; (case hd => rfl); (case hb => (exact ev_; done))) | apply Ab.S.guardG) | (apply Ab.K.aop; first | (apply Ab.O.boxA (l := [.slice A n c, .slice B m d]) N; (case hx => exact ev_); (case hid => exact hT.free (Nat.le_refl _))) | (apply Og.s; constructor)) | (apply Ab.K.gk; first | (apply Xg.s; constructor) | (apply Ab.gY; case hw => assumption) | (apply Ab.gNT; case hw => assumption) | (apply Ab.gNF; case hw => assumption) | ((first | apply Ab.gD | apply Ab.gDN); all_goals (intro _ _; (first | contradiction | (exfalso; omega) | skip)))) | (apply Ab.K.awp; first | (apply Xg.s; constructor)) | (apply Ab.K.at_; exact at_) | (apply Ab.K.acall; first | assumption | exact c54) | (apply Ab.Rg.mk; omega) | (apply Ab.Lt.mk; first | decide | (simp; done) | (simp; omega) | fail) | (apply Ab.Get.mk; first | rfl | fail) | (apply Ab.Nm.mk; first | exact (show (([.slice A n c, .slice B m d] : List Value).drop 0).take 2 = [.slice A n c, .slice B m d] from rfl) | exact nrm_) | (apply Xg.s; constructor) | (apply Ab.asm; assumption) | rfl | infer_instance | decide))
  all_goals ((first | apply RetQ.ret | apply RetQ.normal); (case he => exact evr_); (case hg => rfl))
  all_goals first | rfl | (apply Keeps.fr; (case h => exact fr_); (case hv => exact plR.nm rfl))
set_option maxHeartbeats 8000000 in
theorem innerV {s : AHeap} {A B : Option Addr} {n c m d : Nat} {on ol : Option Nat} {nodes : List Int} {L : List Kn} (hN : NA s (.slice A n c) on nodes) (hL : KA s (.slice B m d) ol L) (hn : n ≤ 100000) (hm : m ≤ 100000) (hv : MayV nodes L) :
    ACallE Try.prog 43 [.agg #[.slice A n c, .slice B m d]] s (fun v s' => ∃ w, v = .tuple #[w, .int .i64 0] ∧ NewL s 5 w (inn L).length (kcs (inn L)) s') := by
  have hml : m = L.length := by obtain ⟨_, _, e⟩ := hL.isl; injection e
  have hLO := hv.2
  refine ACallE.make Try.func43 rfl (by kernel_rfl) (by decide) rfl (fun N hN0 => ?_)
  have hT : Top N s := hN0
  have F1 : Fr (s.set N (.cells true 1 [.slice A n c, .slice B m d])) s [] := Fr.new (hT.free (Nat.le_refl _)) (Fr.refl _ _)
  have c54 := checkV (hN.fr F1) (hL.fr F1) hn hm
  rw [mvB_iff.2 hv] at c54
  (repeat' (first | (apply Ab.K.ev; exact ev_) | (apply Ab.K.aops; first | (apply Xg.s; constructor) | (apply Ab.S.guardU; (case hd => rfl); (case hb => (exact ev_; done))) | apply Ab.S.guardG) | (apply Ab.K.aop; first | (apply Ab.O.boxA (l := [.slice A n c, .slice B m d]) N; (case hx => exact ev_); (case hid => exact hT.free (Nat.le_refl _))) | (apply Og.s; constructor)) | (apply Ab.K.gk; first | (apply Xg.s; constructor) | (apply Ab.gY; case hw => assumption) | (apply Ab.gNT; case hw => assumption) | (apply Ab.gNF; case hw => assumption) | ((first | apply Ab.gD | apply Ab.gDN); all_goals (intro _ _; (first | contradiction | (exfalso; omega) | skip)))) | (apply Ab.K.awp; first | (apply Xg.s; constructor)) | (apply Ab.K.at_; exact at_) | (apply Ab.K.acall; first | assumption | exact c54) | (apply Ab.Rg.mk; omega) | (apply Ab.Lt.mk; first | decide | (simp; done) | (simp; omega) | fail) | (apply Ab.Get.mk; first | rfl | fail) | (apply Ab.Nm.mk; first | exact (show (([.slice A n c, .slice B m d] : List Value).drop 0).take 2 = [.slice A n c, .slice B m d] from rfl) | exact nrm_) | (apply Xg.s; constructor) | (apply Ab.asm; assumption) | rfl | infer_instance | decide))
  clear c54

  refine AWp.loop (fun kk tm s1 => ∃ (i k M : Nat) (v : Value) (ov : Option Nat) (r : List Kn), Ev tm (.tmp 1) (.pointer (some ⟨N, 0, none⟩)) ∧ Ev tm (.tmp 5) v ∧ Ev tm (.tmp 16) (.slice B m d) ∧ Ev tm (.tmp 17) (.int .i64 m) ∧ Ev tm (.tmp 18) (.int .i64 i) ∧ At s1 N (.cells true 1 [.slice A n c, .slice B m d]) ∧ Gr s1 5 (N + 1) v ov k (kcs r) ∧ k = r.length ∧ r = (L.take i).flatMap (fun x => L.filterMap (mt x)) ∧ Fr s1 s [] ∧ Top M s1 ∧ N + 1 ≤ M ∧ i ≤ m ∧ kk = m - i) m ?_ ?_
  · exact ⟨0, 0, N + 1, _, _, [], by exact ev_, by exact ev_, by exact ev_, by exact ev_, by exact ev_, by exact at_, Gr.nil, rfl, rfl, F1, by exact top_, Nat.le_refl _, by omega, rfl⟩
  clear F1
  rintro kk tm s1 ⟨i, k, M, v, ov, r, e1, e5, e16, e17, e18, a1, G, hk, hr, F, T, hMM, hi, hkk⟩
  have hlt := G.lt T
  have hge := G.from_
  by_cases hin : i < m
  · obtain ⟨x, hx⟩ : ∃ x, L[i]? = some x := ⟨_, List.getElem?_eq_getElem (by omega)⟩
    have htk : L.take (i + 1) = L.take i ++ [x] := by rw [List.take_add_one, hx]; rfl
    have hxm := List.mem_of_getElem? hx
    have hok := hLO.1 x hxm
    have hrl : k ≤ 100000 := by rw [hk, hr]; exact Nat.le_trans (flatMap_len (inn_one hLO)) (by rw [List.length_take]; omega)
    have hfm : ∀ y, (L.filterMap (mt x) = y) → (L.take (i + 1)).flatMap (fun x => L.filterMap (mt x)) = r ++ y := fun y e => by rw [htk, List.flatMap_append, ← hr, List.flatMap_cons, List.flatMap_nil, List.append_nil, e]
    obtain ⟨q, rw1, cs, rfl, _, _, hq, hcs, hE, _⟩ := (hL.fr F).elt hx
    have hqM := T.lt hq
    obtain ⟨s2, hs2⟩ : ∃ s2, s2 = (s1.set M (.cells true 1 (kc ⟨0, 0, 0, 0, false⟩))).set M (.cells true 1 (kc x)) := ⟨_, rfl⟩
    have F2 : Fr s2 s [] := by rw [hs2, AHeap.set_set]; exact Fr.new (hT.free (by omega)) F
    have T2 : Top (M + 1) s2 := by rw [hs2, AHeap.set_set]; exact T.new
    have aM : At s2 M (.cells true 1 (kc x)) := by rw [hs2]; exact At.hit
    have a12 : At s2 N (.cells true 1 [.slice A n c, .slice (some ⟨q, 0, none⟩) m d]) := by rw [hs2]; exact at_
    have hq2 : At s2 q (.cells rw1 5 cs) := by rw [hs2]; exact at_
    have G2 : Gr s2 5 (N + 1) v ov k (kcs r) := by rw [hs2]; exact (G.set (fun q e => by have := hlt q e; omega)).set (fun q e => by have := hlt q e; omega)
    have c55 := searchV (t := ⟨x.peer, x.node, 0, 0, false⟩) (hL.fr F2) hLO.2 hm
    rw [hs2] at c55


    (repeat' (first | (apply Ab.K.ev; exact ev_) | (apply Ab.K.aops; first | (apply Xg.s; constructor) | (apply Ab.S.guardU; (case hd => rfl); (case hb => (exact ev_; done))) | apply Ab.S.guardG) | (apply Ab.K.aop; first | (first | (apply Ab.O.allocA (l := kc ⟨0, 0, 0, 0, false⟩) M; (case hid => exact T.free (Nat.le_refl _)); (case hp => rfl)) | (apply Ab.O.storeAll; (case hz => rfl); (case hx => exact ev_); (case hy => exact ev_); (case hs => exact at_); (case hl => rfl); (case hc => rfl)) | (apply Ab.O.callFE; (case ha => exact evs_); (case hc => exact c55))) | (apply Og.s; constructor)) | (apply Ab.K.gk; first | (apply Xg.s; constructor) | (apply Ab.gY; case hw => assumption) | (apply Ab.gNT; case hw => assumption) | (apply Ab.gNF; case hw => assumption) | ((first | apply Ab.gD | apply Ab.gDN); all_goals (intro _ _; (first | contradiction | (exfalso; omega) | skip)))) | (apply Ab.K.awp; first | (apply Xg.s; constructor)) | (apply Ab.K.at_; exact at_) | (apply Ab.K.acall; first | assumption | fail) | (apply Ab.Rg.mk; omega) | (apply Ab.Lt.mk; first | decide | (simp; done) | (simp; omega) | first | omega | (show (0 + 5 : Nat) < 5 + 1; decide) | (show (0 + 4 : Nat) < 5; decide)) | (apply Ab.Get.mk; first | rfl | fail) | (apply Ab.Nm.mk; first | first | exact Eq.trans (congrArg (fun z => List.take _ (List.drop (z * 5) cs)) (Int.toNat_natCast i)) hE | exact (show ((kc x).drop 0).take 5 = kc x from rfl) | exact nrm_) | (apply Xg.s; constructor) | (apply Ab.asm; assumption) | rfl | infer_instance | decide))
    rintro v3 s3 ⟨rfl, j, f, rfl, hf⟩
    rw [← hs2]
    clear c55

    have skip : L.filterMap (mt x) = [] → (L.take (i + 1)).flatMap (fun x => L.filterMap (mt x)) = r := fun e => by rw [hfm _ e, List.append_nil]
    have next0 : L.filterMap (mt x) = [] → r = (L.take (i + 1)).flatMap (fun x => L.filterMap (mt x)) := fun e => (skip e).symm
    by_cases hA : x.node < x.peer
    case neg =>
      have hgt : x.node > x.peer := by have := hok.2.2.1; omega
      have hnx := next0 (filterMap_none fun r1 _ => by unfold VP.mt; rw [if_neg fun h => hA h.1])
      (repeat' (first | (apply Ab.K.ev; exact ev_) | (apply Ab.K.aops; first | (apply Xg.s; constructor) | (apply Ab.S.guardU; (case hd => rfl); (case hb => (exact ev_; done))) | apply Ab.S.guardG) | (apply Ab.K.aop; first | (apply Og.s; constructor)) | (apply Ab.K.gk; first | (apply Xg.s; constructor) | (apply Ab.gY; case hw => assumption) | (apply Ab.gNT; case hw => assumption) | (apply Ab.gNF; case hw => assumption) | ((first | apply Ab.gD | apply Ab.gDN); all_goals (intro _ _; (first | contradiction | (exfalso; omega) | skip)))) | (apply Ab.K.aopsD; first | (apply Ab.D.q0t; (case hw => rfl); (case hot => rfl)) | (apply Ab.D.w1t; (case hw => rfl); (case hot => rfl)) | (apply Ab.D.q0; (case hw => rfl); intro _ _) | (apply Ab.D.w1n; (case hw => rfl); intro _ _) | (apply Ab.D.w2n; (case hw => rfl); intro _ _) | (apply Xg.s; constructor) | (apply Ab.D.guardU; (case hd => rfl); (case hb => (exact ev_; done))) | apply Ab.D.guardG) | exact ⟨rfl, rfl⟩ | (apply Ab.K.awp; first | (apply AWp.draw (id := 9) [[], [0], [], [2], [0, 1, 2, 3], [0, 1, 2, 3, 4], [0, 1, 2, 3, 4, 5], [0, 1, 2, 3, 4, 5, 6], [0, 1, 2, 3, 4, 5, 6, 7], [0, 1, 2, 3, 4, 5, 6, 7, 8], [0, 1, 2, 3, 4, 5, 6, 7, 8, 9], [0, 1, 2, 3, 4, 5, 6, 7, 8, 9, 10], [0, 1, 2, 3, 4, 5, 6, 7, 8, 9], [0, 1, 2, 3, 4, 5, 6, 7, 8, 9, 10, 11, 12], [0, 1, 2, 3, 4, 5, 6, 7, 8, 9, 10, 11, 12, 13], [0, 1, 2, 3, 4, 5, 6, 7, 8, 9, 10, 11, 12, 13, 14], [0, 1, 2, 3, 4, 5, 6, 7, 8, 9], [0, 1, 2, 3, 4, 5, 6, 7, 8, 9, 16], [0, 1, 2, 3, 4, 5, 6, 7, 8, 9, 10, 11, 12, 13, 14, 15, 16, 17], [0, 1, 2, 3, 4, 5, 6, 7, 8, 9, 10, 11, 12, 13, 14, 15, 16, 17, 18], [0, 1, 2, 3, 4, 5, 6, 7, 8, 9, 10, 11, 12, 13, 14, 15, 16, 17, 18, 19], [0, 1, 2, 3, 4, 5, 6, 7, 8, 9, 10, 11, 12, 13, 14, 15, 16, 17, 18, 19, 20], [0, 1, 2, 3, 4, 5, 6, 7, 8, 9, 10, 11, 12, 13, 14, 15, 16, 17, 18, 19, 20, 21], [0, 1, 2, 3, 4, 5, 6, 7, 8, 9, 10, 11, 12, 13, 14, 15, 16, 17, 18, 19, 20], [0, 1, 2, 3, 4, 5, 6, 7, 8, 9, 10, 11, 12, 13, 14, 15, 16, 17, 18, 19, 20, 21, 22, 23], [0, 1, 2, 3, 4, 5, 6, 7, 8, 9, 10, 11, 12, 13, 14, 15, 16, 17, 18, 19, 20, 21, 22, 23, 24], [0, 1, 2, 3, 4, 5, 6, 7, 8, 9, 10, 11, 12, 13, 14, 15, 16, 17, 18, 19, 20, 21, 22, 23, 24, 25], [0, 1, 2, 3, 4, 5, 6, 7, 8, 9, 10, 11, 12, 13, 14, 15, 16, 17, 18, 19, 20], [0, 1, 2, 3, 4, 5, 6, 7, 8, 9, 10, 11, 12, 13, 14, 15, 16, 17, 18, 19, 20, 27], [0, 1, 2, 3, 4, 5, 6, 7, 8, 9, 10, 11, 12, 13, 14, 15, 16, 17, 18, 19, 20, 21, 22, 23, 24, 25, 26, 27, 28], [0, 1, 2, 3, 4, 5, 6, 7, 8, 9, 10, 11, 12, 13, 14, 15, 16, 17, 18, 19, 20, 21, 22, 23, 24, 25, 26, 27, 28, 29]] [] (by kernel_rfl) (by kernel_rfl) (by simp [apartW, unordB, cC] <;> omega)) | (apply Xg.s; constructor)) | (apply Ab.K.at_; exact at_) | (apply Ab.K.acall; first | assumption | fail) | (apply Ab.Rg.mk; omega) | (apply Ab.Lt.mk; first | decide | (simp; done) | (simp; omega) | first | omega | (show (0 + 5 : Nat) < 5 + 1; decide) | (show (0 + 4 : Nat) < 5; decide)) | (apply Ab.Get.mk; first | rfl | fail) | (apply Ab.Nm.mk; first | first | exact Eq.trans (congrArg (fun z => List.take _ (List.drop (z * 5) cs)) (Int.toNat_natCast i)) hE | exact (show ((kc x).drop 0).take 5 = kc x from rfl) | exact nrm_) | (apply Xg.s; constructor) | (apply Ab.asm; assumption) | rfl | infer_instance | decide))
      exact X.roundN (m - (i + 1)) (by omega) ⟨i + 1, k, M + 1, v, ov, r, by exact ev_, by exact ev_, by exact ev_, by exact ev_, by exact ev_, a12, G2, hk, hnx, F2, T2, by omega, by omega, rfl⟩
    have hgt : ¬ x.node > x.peer := by omega
    rcases hf with ⟨rfl, r1, hr1, hk1, hk2⟩ | ⟨rfl, hno⟩
    case inr =>
      have hnx := next0 (inn_no fun r1 h1 h2 => hno r1 h1 h2)
      (repeat' (first | (apply Ab.K.ev; exact ev_) | (apply Ab.K.aops; first | (apply Xg.s; constructor) | (apply Ab.S.guardU; (case hd => rfl); (case hb => (exact ev_; done))) | apply Ab.S.guardG) | (apply Ab.K.aop; first | (apply Og.s; constructor)) | (apply Ab.K.gk; first | (apply Xg.s; constructor) | (apply Ab.gY; case hw => assumption) | (apply Ab.gNT; case hw => assumption) | (apply Ab.gNF; case hw => assumption) | ((first | apply Ab.gD | apply Ab.gDN); all_goals (intro _ _; (first | contradiction | (exfalso; omega) | skip)))) | (apply Ab.K.aopsD; first | (apply Ab.D.q0t; (case hw => rfl); (case hot => rfl)) | (apply Ab.D.w1t; (case hw => rfl); (case hot => rfl)) | (apply Ab.D.q0; (case hw => rfl); intro _ _) | (apply Ab.D.w1n; (case hw => rfl); intro _ _) | (apply Ab.D.w2n; (case hw => rfl); intro _ _) | (apply Xg.s; constructor) | (apply Ab.D.guardU; (case hd => rfl); (case hb => (exact ev_; done))) | apply Ab.D.guardG) | exact ⟨rfl, rfl⟩ | (apply Ab.K.awp; first | (apply AWp.draw (id := 9) [[], [0], [], [2], [0, 1, 2, 3], [0, 1, 2, 3, 4], [0, 1, 2, 3, 4, 5], [0, 1, 2, 3, 4, 5, 6], [0, 1, 2, 3, 4, 5, 6, 7], [0, 1, 2, 3, 4, 5, 6, 7, 8], [0, 1, 2, 3, 4, 5, 6, 7, 8, 9], [0, 1, 2, 3, 4, 5, 6, 7, 8, 9, 10], [0, 1, 2, 3, 4, 5, 6, 7, 8, 9], [0, 1, 2, 3, 4, 5, 6, 7, 8, 9, 10, 11, 12], [0, 1, 2, 3, 4, 5, 6, 7, 8, 9, 10, 11, 12, 13], [0, 1, 2, 3, 4, 5, 6, 7, 8, 9, 10, 11, 12, 13, 14], [0, 1, 2, 3, 4, 5, 6, 7, 8, 9], [0, 1, 2, 3, 4, 5, 6, 7, 8, 9, 16], [0, 1, 2, 3, 4, 5, 6, 7, 8, 9, 10, 11, 12, 13, 14, 15, 16, 17], [0, 1, 2, 3, 4, 5, 6, 7, 8, 9, 10, 11, 12, 13, 14, 15, 16, 17, 18], [0, 1, 2, 3, 4, 5, 6, 7, 8, 9, 10, 11, 12, 13, 14, 15, 16, 17, 18, 19], [0, 1, 2, 3, 4, 5, 6, 7, 8, 9, 10, 11, 12, 13, 14, 15, 16, 17, 18, 19, 20], [0, 1, 2, 3, 4, 5, 6, 7, 8, 9, 10, 11, 12, 13, 14, 15, 16, 17, 18, 19, 20, 21], [0, 1, 2, 3, 4, 5, 6, 7, 8, 9, 10, 11, 12, 13, 14, 15, 16, 17, 18, 19, 20], [0, 1, 2, 3, 4, 5, 6, 7, 8, 9, 10, 11, 12, 13, 14, 15, 16, 17, 18, 19, 20, 21, 22, 23], [0, 1, 2, 3, 4, 5, 6, 7, 8, 9, 10, 11, 12, 13, 14, 15, 16, 17, 18, 19, 20, 21, 22, 23, 24], [0, 1, 2, 3, 4, 5, 6, 7, 8, 9, 10, 11, 12, 13, 14, 15, 16, 17, 18, 19, 20, 21, 22, 23, 24, 25], [0, 1, 2, 3, 4, 5, 6, 7, 8, 9, 10, 11, 12, 13, 14, 15, 16, 17, 18, 19, 20], [0, 1, 2, 3, 4, 5, 6, 7, 8, 9, 10, 11, 12, 13, 14, 15, 16, 17, 18, 19, 20, 27], [0, 1, 2, 3, 4, 5, 6, 7, 8, 9, 10, 11, 12, 13, 14, 15, 16, 17, 18, 19, 20, 21, 22, 23, 24, 25, 26, 27, 28], [0, 1, 2, 3, 4, 5, 6, 7, 8, 9, 10, 11, 12, 13, 14, 15, 16, 17, 18, 19, 20, 21, 22, 23, 24, 25, 26, 27, 28, 29]] [] (by kernel_rfl) (by kernel_rfl) (by simp [apartW, unordB, cC] <;> omega)) | (apply Xg.s; constructor)) | (apply Ab.K.at_; exact at_) | (apply Ab.K.acall; first | assumption | fail) | (apply Ab.Rg.mk; omega) | (apply Ab.Lt.mk; first | decide | (simp; done) | (simp; omega) | first | omega | (show (0 + 5 : Nat) < 5 + 1; decide) | (show (0 + 4 : Nat) < 5; decide)) | (apply Ab.Get.mk; first | rfl | fail) | (apply Ab.Nm.mk; first | first | exact Eq.trans (congrArg (fun z => List.take _ (List.drop (z * 5) cs)) (Int.toNat_natCast i)) hE | exact (show ((kc x).drop 0).take 5 = kc x from rfl) | exact nrm_) | (apply Xg.s; constructor) | (apply Ab.asm; assumption) | rfl | infer_instance | decide))
      exact X.roundN (m - (i + 1)) (by omega) ⟨i + 1, k, M + 1, v, ov, r, by exact ev_, by exact ev_, by exact ev_, by exact ev_, by exact ev_, a12, G2, hk, hnx, F2, T2, by omega, by omega, rfl⟩
    have hjm := (List.getElem?_eq_some_iff.1 hr1).1
    obtain ⟨q3, rw3, cs3, hqq, _, _, hq3, hcs3, hE3, hc3⟩ := (hL.fr F).elt hr1
    obtain rfl : q = q3 := by have := Option.some.inj hqq; injection this
    have e2 := hq.eq.symm.trans hq3.eq
    injection e2 with e2
    injection e2 with _ _ e2
    subst e2
    have g2 : cs[j * 5 + 2]? = some (.int .i64 r1.w) := hc3 2 (by omega)
    have g3 : cs[j * 5 + 3]? = some (.int .i64 r1.ss) := hc3 3 (by omega)
    have g4 : cs[j * 5 + 4]? = some (.bool r1.md) := hc3 4 (by omega)
    have hia := inn_at hLO (List.mem_of_getElem? hr1) hk1 hk2
    by_cases hw : r1.w = x.w
    case neg =>
      have hnx := next0 (by rw [hia]; unfold VP.mt; rw [if_neg fun h => hw h.2.2.2.1.symm]; rfl)
      (repeat' (first | (apply Ab.K.ev; exact ev_) | (apply Ab.K.aops; first | (apply Xg.s; constructor) | (apply Ab.S.guardU; (case hd => rfl); (case hb => (exact ev_; done))) | apply Ab.S.guardG) | (apply Ab.K.aop; first | (apply Og.s; constructor)) | (apply Ab.K.gk; first | (apply Xg.s; constructor) | (apply Ab.gY; case hw => assumption) | (apply Ab.gNT; case hw => assumption) | (apply Ab.gNF; case hw => assumption) | ((first | apply Ab.gD | apply Ab.gDN); all_goals (intro _ _; (first | contradiction | (exfalso; omega) | skip)))) | (apply Ab.K.aopsD; first | (apply Ab.D.q0t; (case hw => rfl); (case hot => rfl)) | (apply Ab.D.w1t; (case hw => rfl); (case hot => rfl)) | (apply Ab.D.q0; (case hw => rfl); intro _ _) | (apply Ab.D.w1n; (case hw => rfl); intro _ _) | (apply Ab.D.w2n; (case hw => rfl); intro _ _) | (apply Xg.s; constructor) | (apply Ab.D.guardU; (case hd => rfl); (case hb => (exact ev_; done))) | apply Ab.D.guardG) | exact ⟨rfl, rfl⟩ | (apply Ab.K.awp; first | (apply AWp.draw (id := 9) [[], [0], [], [2], [0, 1, 2, 3], [0, 1, 2, 3, 4], [0, 1, 2, 3, 4, 5], [0, 1, 2, 3, 4, 5, 6], [0, 1, 2, 3, 4, 5, 6, 7], [0, 1, 2, 3, 4, 5, 6, 7, 8], [0, 1, 2, 3, 4, 5, 6, 7, 8, 9], [0, 1, 2, 3, 4, 5, 6, 7, 8, 9, 10], [0, 1, 2, 3, 4, 5, 6, 7, 8, 9], [0, 1, 2, 3, 4, 5, 6, 7, 8, 9, 10, 11, 12], [0, 1, 2, 3, 4, 5, 6, 7, 8, 9, 10, 11, 12, 13], [0, 1, 2, 3, 4, 5, 6, 7, 8, 9, 10, 11, 12, 13, 14], [0, 1, 2, 3, 4, 5, 6, 7, 8, 9], [0, 1, 2, 3, 4, 5, 6, 7, 8, 9, 16], [0, 1, 2, 3, 4, 5, 6, 7, 8, 9, 10, 11, 12, 13, 14, 15, 16, 17], [0, 1, 2, 3, 4, 5, 6, 7, 8, 9, 10, 11, 12, 13, 14, 15, 16, 17, 18], [0, 1, 2, 3, 4, 5, 6, 7, 8, 9, 10, 11, 12, 13, 14, 15, 16, 17, 18, 19], [0, 1, 2, 3, 4, 5, 6, 7, 8, 9, 10, 11, 12, 13, 14, 15, 16, 17, 18, 19, 20], [0, 1, 2, 3, 4, 5, 6, 7, 8, 9, 10, 11, 12, 13, 14, 15, 16, 17, 18, 19, 20, 21], [0, 1, 2, 3, 4, 5, 6, 7, 8, 9, 10, 11, 12, 13, 14, 15, 16, 17, 18, 19, 20], [0, 1, 2, 3, 4, 5, 6, 7, 8, 9, 10, 11, 12, 13, 14, 15, 16, 17, 18, 19, 20, 21, 22, 23], [0, 1, 2, 3, 4, 5, 6, 7, 8, 9, 10, 11, 12, 13, 14, 15, 16, 17, 18, 19, 20, 21, 22, 23, 24], [0, 1, 2, 3, 4, 5, 6, 7, 8, 9, 10, 11, 12, 13, 14, 15, 16, 17, 18, 19, 20, 21, 22, 23, 24, 25], [0, 1, 2, 3, 4, 5, 6, 7, 8, 9, 10, 11, 12, 13, 14, 15, 16, 17, 18, 19, 20], [0, 1, 2, 3, 4, 5, 6, 7, 8, 9, 10, 11, 12, 13, 14, 15, 16, 17, 18, 19, 20, 27], [0, 1, 2, 3, 4, 5, 6, 7, 8, 9, 10, 11, 12, 13, 14, 15, 16, 17, 18, 19, 20, 21, 22, 23, 24, 25, 26, 27, 28], [0, 1, 2, 3, 4, 5, 6, 7, 8, 9, 10, 11, 12, 13, 14, 15, 16, 17, 18, 19, 20, 21, 22, 23, 24, 25, 26, 27, 28, 29]] [] (by kernel_rfl) (by kernel_rfl) (by simp [apartW, unordB, cC] <;> omega)) | (apply Xg.s; constructor)) | (apply Ab.K.at_; exact at_) | (apply Ab.K.acall; first | assumption | fail) | (apply Ab.Rg.mk; omega) | (apply Ab.Lt.mk; first | decide | (simp; done) | (simp; omega) | first | omega | (show (0 + 5 : Nat) < 5 + 1; decide) | (show (0 + 4 : Nat) < 5; decide)) | (apply Ab.Get.mk; first | rfl | first | rfl | (rw [Int.toNat_natCast]; first | exact g2 | exact g3 | exact g4)) | (apply Ab.Nm.mk; first | first | exact Eq.trans (congrArg (fun z => List.take _ (List.drop (z * 5) cs)) (Int.toNat_natCast i)) hE | exact (show ((kc x).drop 0).take 5 = kc x from rfl) | exact nrm_) | (apply Xg.s; constructor) | (apply Ab.asm; assumption) | rfl | infer_instance | decide))
      exact X.roundN (m - (i + 1)) (by omega) ⟨i + 1, k, M + 1, v, ov, r, by exact ev_, by exact ev_, by exact ev_, by exact ev_, by exact ev_, a12, G2, hk, hnx, F2, T2, by omega, by omega, rfl⟩
    by_cases hss : r1.ss = x.ss
    case neg =>
      have hnx := next0 (by rw [hia]; unfold VP.mt; rw [if_neg fun h => hss h.2.2.2.2.symm]; rfl)
      (repeat' (first | (apply Ab.K.ev; exact ev_) | (apply Ab.K.aops; first | (apply Xg.s; constructor) | (apply Ab.S.guardU; (case hd => rfl); (case hb => (exact ev_; done))) | apply Ab.S.guardG) | (apply Ab.K.aop; first | (apply Og.s; constructor)) | (apply Ab.K.gk; first | (apply Xg.s; constructor) | (apply Ab.gY; case hw => assumption) | (apply Ab.gNT; case hw => assumption) | (apply Ab.gNF; case hw => assumption) | ((first | apply Ab.gD | apply Ab.gDN); all_goals (intro _ _; (first | contradiction | (exfalso; omega) | skip)))) | (apply Ab.K.aopsD; first | (apply Ab.D.q0t; (case hw => rfl); (case hot => rfl)) | (apply Ab.D.w1t; (case hw => rfl); (case hot => rfl)) | (apply Ab.D.q0; (case hw => rfl); intro _ _) | (apply Ab.D.w1n; (case hw => rfl); intro _ _) | (apply Ab.D.w2n; (case hw => rfl); intro _ _) | (apply Xg.s; constructor) | (apply Ab.D.guardU; (case hd => rfl); (case hb => (exact ev_; done))) | apply Ab.D.guardG) | exact ⟨rfl, rfl⟩ | (apply Ab.K.awp; first | (apply AWp.draw (id := 9) [[], [0], [], [2], [0, 1, 2, 3], [0, 1, 2, 3, 4], [0, 1, 2, 3, 4, 5], [0, 1, 2, 3, 4, 5, 6], [0, 1, 2, 3, 4, 5, 6, 7], [0, 1, 2, 3, 4, 5, 6, 7, 8], [0, 1, 2, 3, 4, 5, 6, 7, 8, 9], [0, 1, 2, 3, 4, 5, 6, 7, 8, 9, 10], [0, 1, 2, 3, 4, 5, 6, 7, 8, 9], [0, 1, 2, 3, 4, 5, 6, 7, 8, 9, 10, 11, 12], [0, 1, 2, 3, 4, 5, 6, 7, 8, 9, 10, 11, 12, 13], [0, 1, 2, 3, 4, 5, 6, 7, 8, 9, 10, 11, 12, 13, 14], [0, 1, 2, 3, 4, 5, 6, 7, 8, 9], [0, 1, 2, 3, 4, 5, 6, 7, 8, 9, 16], [0, 1, 2, 3, 4, 5, 6, 7, 8, 9, 10, 11, 12, 13, 14, 15, 16, 17], [0, 1, 2, 3, 4, 5, 6, 7, 8, 9, 10, 11, 12, 13, 14, 15, 16, 17, 18], [0, 1, 2, 3, 4, 5, 6, 7, 8, 9, 10, 11, 12, 13, 14, 15, 16, 17, 18, 19], [0, 1, 2, 3, 4, 5, 6, 7, 8, 9, 10, 11, 12, 13, 14, 15, 16, 17, 18, 19, 20], [0, 1, 2, 3, 4, 5, 6, 7, 8, 9, 10, 11, 12, 13, 14, 15, 16, 17, 18, 19, 20, 21], [0, 1, 2, 3, 4, 5, 6, 7, 8, 9, 10, 11, 12, 13, 14, 15, 16, 17, 18, 19, 20], [0, 1, 2, 3, 4, 5, 6, 7, 8, 9, 10, 11, 12, 13, 14, 15, 16, 17, 18, 19, 20, 21, 22, 23], [0, 1, 2, 3, 4, 5, 6, 7, 8, 9, 10, 11, 12, 13, 14, 15, 16, 17, 18, 19, 20, 21, 22, 23, 24], [0, 1, 2, 3, 4, 5, 6, 7, 8, 9, 10, 11, 12, 13, 14, 15, 16, 17, 18, 19, 20, 21, 22, 23, 24, 25], [0, 1, 2, 3, 4, 5, 6, 7, 8, 9, 10, 11, 12, 13, 14, 15, 16, 17, 18, 19, 20], [0, 1, 2, 3, 4, 5, 6, 7, 8, 9, 10, 11, 12, 13, 14, 15, 16, 17, 18, 19, 20, 27], [0, 1, 2, 3, 4, 5, 6, 7, 8, 9, 10, 11, 12, 13, 14, 15, 16, 17, 18, 19, 20, 21, 22, 23, 24, 25, 26, 27, 28], [0, 1, 2, 3, 4, 5, 6, 7, 8, 9, 10, 11, 12, 13, 14, 15, 16, 17, 18, 19, 20, 21, 22, 23, 24, 25, 26, 27, 28, 29]] [] (by kernel_rfl) (by kernel_rfl) (by simp [apartW, unordB, cC] <;> omega)) | (apply Xg.s; constructor)) | (apply Ab.K.at_; exact at_) | (apply Ab.K.acall; first | assumption | fail) | (apply Ab.Rg.mk; omega) | (apply Ab.Lt.mk; first | decide | (simp; done) | (simp; omega) | first | omega | (show (0 + 5 : Nat) < 5 + 1; decide) | (show (0 + 4 : Nat) < 5; decide)) | (apply Ab.Get.mk; first | rfl | first | rfl | (rw [Int.toNat_natCast]; first | exact g2 | exact g3 | exact g4)) | (apply Ab.Nm.mk; first | first | exact Eq.trans (congrArg (fun z => List.take _ (List.drop (z * 5) cs)) (Int.toNat_natCast i)) hE | exact (show ((kc x).drop 0).take 5 = kc x from rfl) | exact nrm_) | (apply Xg.s; constructor) | (apply Ab.asm; assumption) | rfl | infer_instance | decide))
      exact X.roundN (m - (i + 1)) (by omega) ⟨i + 1, k, M + 1, v, ov, r, by exact ev_, by exact ev_, by exact ev_, by exact ev_, by exact ev_, a12, G2, hk, hnx, F2, T2, by omega, by omega, rfl⟩
    obtain ⟨y, hy⟩ : ∃ y : Kn, y = { x with md := x.md && r1.md } := ⟨_, rfl⟩
    have hnx : r ++ [y] = (L.take (i + 1)).flatMap (fun x => L.filterMap (mt x)) := by
      rw [hfm _ hia]; unfold VP.mt; rw [if_pos ⟨hA, hk2.symm, hk1.symm, hw.symm, hss.symm⟩, hy]; rfl
    have hset : ∀ b, b = y.md → (kc x).set (0 + 4) (.bool b) = kc y := fun b hb => by rw [hb, hy]; rfl


    cases hmd : x.md
    case' false => have hmd2 : false = y.md := by rw [hy]; show false = (x.md && r1.md); rw [hmd]; rfl
    case' true => have hmd2 : r1.md = y.md := by rw [hy]; show r1.md = (x.md && r1.md); rw [hmd]; rfl
    all_goals
      (repeat' (first | (apply Ab.K.ev; exact ev_) | (apply Ab.K.aops; first | (apply Xg.s; constructor) | (apply Ab.S.guardU; (case hd => rfl); (case hb => (exact ev_; done))) | apply Ab.S.guardG) | (apply Ab.K.aop; first | (apply Ab.O.build1A (M + 1); (case hx => exact ev_); (case hl => rfl); (case hz => exact ⟨rfl, rfl⟩); (case hes => decide); (case hid => exact free_)) | (apply Og.s; constructor)) | (apply Ab.K.gk; first | (apply Xg.s; constructor) | (apply Ab.gY; case hw => assumption) | (apply Ab.gNT; case hw => assumption) | (apply Ab.gNF; case hw => assumption) | ((first | apply Ab.gD | apply Ab.gDN); all_goals (intro _ _; (first | contradiction | (exfalso; omega) | skip)))) | (apply Ab.K.aopsD; first | (apply Ab.D.q0t; (case hw => rfl); (case hot => rfl)) | (apply Ab.D.w1t; (case hw => rfl); (case hot => rfl)) | (apply Ab.D.q0; (case hw => rfl); intro _ _) | (apply Ab.D.w1n; (case hw => rfl); intro _ _) | (apply Ab.D.w2n; (case hw => rfl); intro _ _) | (apply Xg.s; constructor) | (apply Ab.D.guardU; (case hd => rfl); (case hb => (exact ev_; done))) | apply Ab.D.guardG) | exact ⟨rfl, rfl⟩ | (apply Ab.K.awp; first | (apply AWp.draw (id := 9) [[], [0], [], [2], [0, 1, 2, 3], [0, 1, 2, 3, 4], [0, 1, 2, 3, 4, 5], [0, 1, 2, 3, 4, 5, 6], [0, 1, 2, 3, 4, 5, 6, 7], [0, 1, 2, 3, 4, 5, 6, 7, 8], [0, 1, 2, 3, 4, 5, 6, 7, 8, 9], [0, 1, 2, 3, 4, 5, 6, 7, 8, 9, 10], [0, 1, 2, 3, 4, 5, 6, 7, 8, 9], [0, 1, 2, 3, 4, 5, 6, 7, 8, 9, 10, 11, 12], [0, 1, 2, 3, 4, 5, 6, 7, 8, 9, 10, 11, 12, 13], [0, 1, 2, 3, 4, 5, 6, 7, 8, 9, 10, 11, 12, 13, 14], [0, 1, 2, 3, 4, 5, 6, 7, 8, 9], [0, 1, 2, 3, 4, 5, 6, 7, 8, 9, 16], [0, 1, 2, 3, 4, 5, 6, 7, 8, 9, 10, 11, 12, 13, 14, 15, 16, 17], [0, 1, 2, 3, 4, 5, 6, 7, 8, 9, 10, 11, 12, 13, 14, 15, 16, 17, 18], [0, 1, 2, 3, 4, 5, 6, 7, 8, 9, 10, 11, 12, 13, 14, 15, 16, 17, 18, 19], [0, 1, 2, 3, 4, 5, 6, 7, 8, 9, 10, 11, 12, 13, 14, 15, 16, 17, 18, 19, 20], [0, 1, 2, 3, 4, 5, 6, 7, 8, 9, 10, 11, 12, 13, 14, 15, 16, 17, 18, 19, 20, 21], [0, 1, 2, 3, 4, 5, 6, 7, 8, 9, 10, 11, 12, 13, 14, 15, 16, 17, 18, 19, 20], [0, 1, 2, 3, 4, 5, 6, 7, 8, 9, 10, 11, 12, 13, 14, 15, 16, 17, 18, 19, 20, 21, 22, 23], [0, 1, 2, 3, 4, 5, 6, 7, 8, 9, 10, 11, 12, 13, 14, 15, 16, 17, 18, 19, 20, 21, 22, 23, 24], [0, 1, 2, 3, 4, 5, 6, 7, 8, 9, 10, 11, 12, 13, 14, 15, 16, 17, 18, 19, 20, 21, 22, 23, 24, 25], [0, 1, 2, 3, 4, 5, 6, 7, 8, 9, 10, 11, 12, 13, 14, 15, 16, 17, 18, 19, 20], [0, 1, 2, 3, 4, 5, 6, 7, 8, 9, 10, 11, 12, 13, 14, 15, 16, 17, 18, 19, 20, 27], [0, 1, 2, 3, 4, 5, 6, 7, 8, 9, 10, 11, 12, 13, 14, 15, 16, 17, 18, 19, 20, 21, 22, 23, 24, 25, 26, 27, 28], [0, 1, 2, 3, 4, 5, 6, 7, 8, 9, 10, 11, 12, 13, 14, 15, 16, 17, 18, 19, 20, 21, 22, 23, 24, 25, 26, 27, 28, 29]] [] (by kernel_rfl) (by kernel_rfl) (by simp [apartW, unordB, cC] <;> omega)) | (apply Xg.s; constructor)) | (apply Ab.K.at_; exact at_) | (apply Ab.K.acall; first | assumption | fail) | (apply Ab.Rg.mk; omega) | (apply Ab.Lt.mk; first | decide | (simp; done) | (simp; omega) | first | omega | (show (0 + 5 : Nat) < 5 + 1; decide) | (show (0 + 4 : Nat) < 5; decide)) | (apply Ab.Get.mk; first | rfl | first | rfl | (rw [Int.toNat_natCast]; first | exact g2 | exact g3 | exact g4)) | (apply Ab.Nm.mk; first | first | exact (show ((kc y).drop 0).take 5 = kc y from rfl) | exact hset _ hmd2 | exact nrm_) | (apply Xg.s; constructor) | (apply Ab.asm; assumption) | rfl | infer_instance | decide))
    all_goals
      have T3 : Top (M + 1) (s2.set M (.cells true 1 (kc y))) := T2.set (by omega)
      have F3 : Fr (s2.set M (.cells true 1 (kc y))) s [] := by rw [hs2, AHeap.set_set, AHeap.set_set]; exact Fr.new (hT.free (by omega)) F
      have G3 : Gr (s2.set M (.cells true 1 (kc y))) 5 (N + 1) v ov k (kcs r) := G2.set (fun q e => by have := hlt q e; omega)
      have G4 : Gr ((s2.set M (.cells true 1 (kc y))).set (M + 1) (.cells true 5 (kc y))) 5 (N + 1) v ov k (kcs r) := G3.set (fun q e => by have := hlt q e; omega)
      have b1 : At ((s2.set M (.cells true 1 (kc y))).set (M + 1) (.cells true 5 (kc y))) N (.cells true 1 [.slice A n c, .slice (some ⟨q, 0, none⟩) m d]) := At.miss (by omega) (At.miss (by omega) a12)
      clear G2 G3
      (apply Ab.O.appendL (M + 2); (case hx => exact ev_); (case hL => exact Ab.Gr.lat (by assumption)); (case hy => exact ev_); (case hs => exact srcAll At.hit rfl); (case hk => rfl); (case hm => decide); (case hl => first | rfl | simp); (case hz => decide); (case hb => omega); (case hfree => exact free_))
      intro s4 g
      have T5 := G4.topN g T3.new
      have F5 := G4.frN g (Fr.new (hT.free (by omega)) F3) (hT.mono (by omega))
      have b5 := Gr.off g b1 (fun q e => by have := hge q e; omega) (by omega)
      rw [show kcs r ++ kc y = kcs (r ++ [y]) from by rw [kcs_append]; simp [kcs]] at g
      have G5 : Gr s4 5 (N + 1) _ _ (k + 1) _ := Gr.app g (by rw [kcs_length, List.length_append, hk]; rfl) (by omega)
      (repeat' (first | (apply Ab.K.ev; exact ev_) | (apply Ab.K.aops; first | (apply Xg.s; constructor) | (apply Ab.S.guardU; (case hd => rfl); (case hb => (exact ev_; done))) | apply Ab.S.guardG) | (apply Ab.K.aop; first | (apply Og.s; constructor)) | (apply Ab.K.gk; first | (apply Xg.s; constructor) | (apply Ab.gY; case hw => assumption) | (apply Ab.gNT; case hw => assumption) | (apply Ab.gNF; case hw => assumption) | ((first | apply Ab.gD | apply Ab.gDN); all_goals (intro _ _; (first | contradiction | (exfalso; omega) | skip)))) | (apply Ab.K.awp; first | (apply Xg.s; constructor)) | (apply Ab.K.at_; exact at_) | (apply Ab.K.acall; first | assumption | fail) | (apply Ab.Rg.mk; omega) | (apply Ab.Lt.mk; first | decide | (simp; done) | (simp; omega) | first | omega | (show (0 + 5 : Nat) < 5 + 1; decide) | (show (0 + 4 : Nat) < 5; decide)) | (apply Ab.Get.mk; first | rfl | first | rfl | (rw [Int.toNat_natCast]; first | exact g2 | exact g3 | exact g4)) | (apply Ab.Nm.mk; first | first | exact (show ((kc y).drop 0).take 5 = kc y from rfl) | exact hset _ hmd2 | exact nrm_) | (apply Xg.s; constructor) | (apply Ab.asm; assumption) | rfl | infer_instance | decide))
      exact X.roundN (m - (i + 1)) (by omega) ⟨i + 1, k + 1, M + 3, _, _, r ++ [y], by exact ev_, by exact ev_, by exact ev_, by exact ev_, by exact ev_, b5, G5, by rw [List.length_append, hk]; rfl, hnx, F5, T5, by omega, by omega, rfl⟩
  · obtain rfl : i = m := by omega
    have hr2 : r = inn L := by rw [hr, hml, List.take_length]; rfl
    obtain ⟨s', hs', _, hkeep⟩ := G.newL F (hT.mono (by omega)) (kcs_pl _)
    have hq : ∃ w, Value.tuple #[v, .int .i64 0] = .tuple #[w, .int .i64 0] ∧ NewL s 5 w (inn L).length (kcs (inn L)) s' := ⟨v, rfl, by rw [← hr2, ← hk]; exact hs'⟩
    have hk0 := hkeep .i64 0
    rcases hs'.val with rfl | ⟨u, rfl⟩
    all_goals
      (repeat' (first | (apply Ab.K.ev; exact ev_) | (apply Ab.K.aops; first | (apply Xg.s; constructor) | (apply Ab.S.guardU; (case hd => rfl); (case hb => (exact ev_; done))) | apply Ab.S.guardG) | (apply Ab.K.aop; first | (apply Og.s; constructor)) | (apply Ab.K.gk; first | (apply Xg.s; constructor) | (apply Ab.gY; case hw => assumption) | (apply Ab.gNT; case hw => assumption) | (apply Ab.gNF; case hw => assumption) | ((first | apply Ab.gD | apply Ab.gDN); all_goals (intro _ _; (first | contradiction | (exfalso; omega) | skip)))) | (apply Ab.K.awp; first | (apply Xg.s; constructor)) | (apply Ab.K.at_; exact at_) | (apply Ab.K.acall; first | assumption | fail) | (apply Ab.Rg.mk; omega) | (apply Ab.Lt.mk; first | decide | (simp; done) | (simp; omega) | first | omega | (show (0 + 5 : Nat) < 5 + 1; decide) | (show (0 + 4 : Nat) < 5; decide)) | (apply Ab.Get.mk; first | rfl | first | rfl | (rw [Int.toNat_natCast]; first | exact g2 | exact g3 | exact g4)) | (apply Ab.Nm.mk; first | first | exact (show ((kc y).drop 0).take 5 = kc y from rfl) | exact hset _ hmd2 | exact nrm_) | (apply Xg.s; constructor) | (apply Ab.asm; assumption) | rfl | infer_instance | decide))
      all_goals ((first | apply RetE.ret | apply RetE.normal); (case he => exact evr_); (case hg => rfl))
      · exact hq
      · exact hk0
end Go.Proofs.Ytdbnpghckgmaoaa

/- trees: the document's heaviest edge, and all behind a node. -/
namespace Go.Proofs.Ytdbnpghckgmaoaa
set_option linter.unusedVariables false
set_option linter.unusedSimpArgs false
set_option linter.unusedSectionVars false
open Go.RowKit Ab TP
attribute [local irreducible] AOps AOpsD AOp AWp put nargs AHeap.set At Free ACall thenQ blockQ roundQ RetQ Src bsn





/-! ### all behind a node -/
noncomputable def belB (l : List E) (root a : Int) (i : Nat) : Bool := open Classical in decide (TP.Node root ∧ ∃ p, TP.Way l root i p ∧ a ∈ p)
theorem belB_iff {l : List E} {root a : Int} {i : Nat} : belB l root a i = true ↔ TP.Node root ∧ ∃ p, TP.Way l root i p ∧ a ∈ p := by simp [belB]
noncomputable def bel (l : List E) (root a : Int) : List Int := lkN (belB l root a) 64










end Go.Proofs.Ytdbnpghckgmaoaa

/- trees: the first edge of a kind, by a function that may change memory. -/
namespace Go.Proofs.Ytdbnpghckgmaoaa
set_option linter.unusedVariables false
set_option linter.unusedSimpArgs false
set_option linter.unusedSectionVars false
open Go.RowKit Ab TP
attribute [local irreducible] AOps AOpsD AOp AWp put nargs AHeap.set At Free ACall ACallE thenQ blockQ roundQ RetQ RetE Src bsn
theorem index38 {s : AHeap} {A : Option Addr} {n c : Nat} {l : List E} {fn : FuncId} {caps : Array Value} {b : Nat → Bool} (Inv : Nat → AHeap → Prop) (hE : ∀ i s1, Inv i s1 → ∃ on, EA s1 (.slice A n c) on l) (hX : ∀ i s1, Inv i s1 → Ext s1 s)
    (hF : ∀ i e s1, l[i]? = some e → (∀ j, j < i → b j = false) → Inv i s1 → ACallE Try.prog fn (.agg (ec e).toArray :: caps.toList) s1 (fun v s' => v = .bool (b i) ∧ Inv (i + 1) s')) (h0 : Inv 0 s) (hn : n ≤ 512) :
    ACallE Try.prog 53 [.slice A n c, .func (.func fn) #[] caps] s (fun v s' => (∃ i, i < n ∧ b i = true ∧ (∀ j, j < i → b j = false) ∧ v = .int .i64 i ∧ Inv (i + 1) s') ∨ ((∀ j, j < n → b j = false) ∧ v = .int .i64 (-1) ∧ Inv n s')) := by
  have hnl : n = l.length := by obtain ⟨on, h⟩ := hE 0 s h0; obtain ⟨_, _, e⟩ := h.isl; injection e
  refine ACallE.make Try.func53 rfl (by kernel_rfl) (by decide) rfl (fun N hN => ?_)
  clear hN
  (repeat' (first | (apply Ab.K.ev; exact ev_) | (apply Ab.K.aops; first | (apply Xg.s; constructor) | (apply Ab.S.guardU; (case hd => rfl); (case hb => (exact ev_; done))) | apply Ab.S.guardG) | (apply Ab.K.aop; first | (apply Og.s; constructor)) | (apply Ab.K.gk; first | (apply Xg.s; constructor) | (apply Ab.gY; case hw => assumption) | (apply Ab.gNT; case hw => assumption) | (apply Ab.gNF; case hw => assumption) | ((first | apply Ab.gD | apply Ab.gDN); all_goals (intro _ _; (first | contradiction | (exfalso; omega) | skip)))) | (apply Ab.K.awp; first | (apply Xg.s; constructor)) | (apply Ab.K.at_; exact at_) | (apply Ab.K.acall; first | assumption | fail) | (apply Ab.Rg.mk; omega) | (apply Ab.Lt.mk; first | decide | (simp; done) | (simp; omega) | fail) | (apply Ab.Get.mk; first | rfl | fail) | (apply Ab.Nm.mk; first | exact nrm_) | (apply Xg.s; constructor) | (apply Ab.asm; assumption) | rfl | infer_instance | decide))
  refine AWp.loop (fun kk tm s1 => ∃ i : Nat, Ev tm (.tmp 0) (.slice A n c) ∧ Ev tm (.tmp 1) (.func (.func fn) #[] caps) ∧ Ev tm (.tmp 7) (.int .i64 n) ∧ Ev tm (.tmp 8) (.int .i64 i) ∧ Inv i s1 ∧ (∀ j, j < i → b j = false) ∧ i ≤ n ∧ kk = n - i) n ?_ ?_
  · exact ⟨0, by exact ev_, by exact ev_, by exact ev_, by exact ev_, h0, fun j hj => by omega, by omega, rfl⟩
  rintro kk tm s1 ⟨i, e0, e1, e7, e8, hI, hb, hi, hkk⟩
  by_cases hin : i < n
  · have hi' : l[i]? = some (l[i]'(by omega)) := List.getElem?_eq_getElem (by omega)
    obtain ⟨e, hee⟩ : ∃ e, e = l[i]'(by omega) := ⟨_, rfl⟩
    rw [← hee] at hi'
    obtain ⟨on, hE1⟩ := hE i s1 hI
    obtain ⟨q, rw1, cs, rfl, _, _, hq, _, hc3, _⟩ := hE1.elt hi'
    have hc := hF i e s1 hi' hb hI


    (repeat' (first | (apply Ab.K.ev; exact ev_) | (apply Ab.K.aops; first | (apply Xg.s; constructor) | (apply Ab.S.guardU; (case hd => rfl); (case hb => (exact ev_; done))) | apply Ab.S.guardG) | (apply Ab.K.aop; first | (apply Ab.O.callE; (case hf => exact ev_); (case ha => exact evs_); (case hc => exact hc)) | (apply Og.s; constructor)) | (apply Ab.K.gk; first | (apply Xg.s; constructor) | (apply Ab.gY; case hw => assumption) | (apply Ab.gNT; case hw => assumption) | (apply Ab.gNF; case hw => assumption) | ((first | apply Ab.gD | apply Ab.gDN); all_goals (intro _ _; (first | contradiction | (exfalso; omega) | skip)))) | (apply Ab.K.awp; first | (apply Xg.s; constructor)) | (apply Ab.K.at_; exact at_) | (apply Ab.K.acall; first | assumption | fail) | (apply Ab.Rg.mk; omega) | (apply Ab.Lt.mk; first | decide | (simp; done) | (simp; omega) | omega) | (apply Ab.Get.mk; first | rfl | fail) | (apply Ab.Nm.mk; first | exact Eq.trans (congrArg (fun z => List.take _ (List.drop (z * 3) cs)) (Int.toNat_natCast i)) hc3 | exact nrm_) | (apply Xg.s; constructor) | (apply Ab.asm; assumption) | rfl | infer_instance | decide))
    rintro v s2 ⟨rfl, hI2⟩
    clear hc hq hE1
    cases hbi : b i
    · (repeat' (first | (apply Ab.K.ev; exact ev_) | (apply Ab.K.aops; first | (apply Xg.s; constructor) | (apply Ab.S.guardU; (case hd => rfl); (case hb => (exact ev_; done))) | apply Ab.S.guardG) | (apply Ab.K.aop; first | (apply Og.s; constructor)) | (apply Ab.K.gk; first | (apply Xg.s; constructor) | (apply Ab.gY; case hw => assumption) | (apply Ab.gNT; case hw => assumption) | (apply Ab.gNF; case hw => assumption) | ((first | apply Ab.gD | apply Ab.gDN); all_goals (intro _ _; (first | contradiction | (exfalso; omega) | skip)))) | (apply Ab.K.awp; first | (apply Xg.s; constructor)) | (apply Ab.K.at_; exact at_) | (apply Ab.K.acall; first | assumption | fail) | (apply Ab.Rg.mk; omega) | (apply Ab.Lt.mk; first | decide | (simp; done) | (simp; omega) | omega) | (apply Ab.Get.mk; first | rfl | fail) | (apply Ab.Nm.mk; first | exact Eq.trans (congrArg (fun z => List.take _ (List.drop (z * 3) cs)) (Int.toNat_natCast i)) hc3 | exact nrm_) | (apply Xg.s; constructor) | (apply Ab.asm; assumption) | rfl | infer_instance | decide))
      exact X.roundN (n - (i + 1)) (by omega) ⟨i + 1, by exact ev_, by exact ev_, by exact ev_, by exact ev_, hI2, fun j hj => (by
        by_cases e : j = i
        · rw [e]; exact hbi
        · exact hb j (by omega)), by omega, rfl⟩
    · (repeat' (first | (apply Ab.K.ev; exact ev_) | (apply Ab.K.aops; first | (apply Xg.s; constructor) | (apply Ab.S.guardU; (case hd => rfl); (case hb => (exact ev_; done))) | apply Ab.S.guardG) | (apply Ab.K.aop; first | (apply Og.s; constructor)) | (apply Ab.K.gk; first | (apply Xg.s; constructor) | (apply Ab.gY; case hw => assumption) | (apply Ab.gNT; case hw => assumption) | (apply Ab.gNF; case hw => assumption) | ((first | apply Ab.gD | apply Ab.gDN); all_goals (intro _ _; (first | contradiction | (exfalso; omega) | skip)))) | (apply Ab.K.awp; first | (apply Xg.s; constructor)) | (apply Ab.K.at_; exact at_) | (apply Ab.K.acall; first | assumption | fail) | (apply Ab.Rg.mk; omega) | (apply Ab.Lt.mk; first | decide | (simp; done) | (simp; omega) | omega) | (apply Ab.Get.mk; first | rfl | fail) | (apply Ab.Nm.mk; first | exact Eq.trans (congrArg (fun z => List.take _ (List.drop (z * 3) cs)) (Int.toNat_natCast i)) hc3 | exact nrm_) | (apply Xg.s; constructor) | (apply Ab.asm; assumption) | rfl | infer_instance | decide))
      all_goals ((first | apply RetE.ret | apply RetE.normal); (case he => exact evr_); (case hg => rfl))
      all_goals first | exact .inl ⟨i, hin, hbi, hb, rfl, hI2⟩ | exact Keeps.ext (hX _ _ hI2) (plR.nm rfl)
  · obtain rfl : i = n := by omega
    (repeat' (first | (apply Ab.K.ev; exact ev_) | (apply Ab.K.aops; first | (apply Xg.s; constructor) | (apply Ab.S.guardU; (case hd => rfl); (case hb => (exact ev_; done))) | apply Ab.S.guardG) | (apply Ab.K.aop; first | (apply Og.s; constructor)) | (apply Ab.K.gk; first | (apply Xg.s; constructor) | (apply Ab.gY; case hw => assumption) | (apply Ab.gNT; case hw => assumption) | (apply Ab.gNF; case hw => assumption) | ((first | apply Ab.gD | apply Ab.gDN); all_goals (intro _ _; (first | contradiction | (exfalso; omega) | skip)))) | (apply Ab.K.awp; first | (apply Xg.s; constructor)) | (apply Ab.K.at_; exact at_) | (apply Ab.K.acall; first | assumption | fail) | (apply Ab.Rg.mk; omega) | (apply Ab.Lt.mk; first | decide | (simp; done) | (simp; omega) | omega) | (apply Ab.Get.mk; first | rfl | fail) | (apply Ab.Nm.mk; first | exact Eq.trans (congrArg (fun z => List.take _ (List.drop (z * 3) cs)) (Int.toNat_natCast i)) hc3 | exact nrm_) | (apply Xg.s; constructor) | (apply Ab.asm; assumption) | rfl | infer_instance | decide))
    all_goals ((first | apply RetE.ret | apply RetE.normal); (case he => exact evr_); (case hg => rfl))
    all_goals first | exact .inr ⟨hb, rfl, hI⟩ | exact Keeps.ext (hX _ _ hI) (plR.nm rfl)
theorem contains45 {s : AHeap} {A : Option Addr} {n c : Nat} {l : List E} {fn : FuncId} {caps : Array Value} {b : Nat → Bool} (Inv : Nat → AHeap → Prop) (hE : ∀ i s1, Inv i s1 → ∃ on, EA s1 (.slice A n c) on l) (hX : ∀ i s1, Inv i s1 → Ext s1 s)
    (hF : ∀ i e s1, l[i]? = some e → (∀ j, j < i → b j = false) → Inv i s1 → ACallE Try.prog fn (.agg (ec e).toArray :: caps.toList) s1 (fun v s' => v = .bool (b i) ∧ Inv (i + 1) s')) (h0 : Inv 0 s) (hn : n ≤ 512) :
    ACallE Try.prog 47 [.slice A n c, .func (.func fn) #[] caps] s (fun v s' => (∃ i, i < n ∧ b i = true ∧ (∀ j, j < i → b j = false) ∧ v = .bool true ∧ Inv (i + 1) s') ∨ ((∀ j, j < n → b j = false) ∧ v = .bool false ∧ Inv n s')) := by
  have hc := index38 Inv hE hX hF h0 hn
  refine ACallE.make Try.func47 rfl (by kernel_rfl) (by decide) rfl (fun N hN => ?_)
  clear hN
  (repeat' (first | (apply Ab.K.ev; exact ev_) | (apply Ab.K.aops; first | (apply Xg.s; constructor) | (apply Ab.S.guardU; (case hd => rfl); (case hb => (exact ev_; done))) | apply Ab.S.guardG) | (apply Ab.K.aop; first | (apply Ab.O.callFE; (case ha => exact evs_); (case hc => exact hc)) | (apply Og.s; constructor)) | (apply Ab.K.gk; first | (apply Xg.s; constructor) | (apply Ab.gY; case hw => assumption) | (apply Ab.gNT; case hw => assumption) | (apply Ab.gNF; case hw => assumption) | ((first | apply Ab.gD | apply Ab.gDN); all_goals (intro _ _; (first | contradiction | (exfalso; omega) | skip)))) | (apply Ab.K.awp; first | (apply Xg.s; constructor)) | (apply Ab.K.at_; exact at_) | (apply Ab.K.acall; first | assumption | fail) | (apply Ab.Rg.mk; omega) | (apply Ab.Lt.mk; first | decide | (simp; done) | (simp; omega) | omega) | (apply Ab.Get.mk; first | rfl | fail) | (apply Ab.Nm.mk; first | exact Eq.trans (congrArg (fun z => List.take _ (List.drop (z * 3) cs)) (Int.toNat_natCast i)) hc3 | exact nrm_) | (apply Xg.s; constructor) | (apply Ab.asm; assumption) | rfl | infer_instance | decide))
  rintro v s2 (⟨i, h1, h2, h3, rfl, hI⟩ | ⟨h1, rfl, hI⟩)
  · clear hc
    (repeat' (first | (apply Ab.K.ev; exact ev_) | (apply Ab.K.aops; first | (apply Xg.s; constructor) | (apply Ab.S.guardU; (case hd => rfl); (case hb => (exact ev_; done))) | apply Ab.S.guardG) | (apply Ab.K.aop; first | (apply Og.s; constructor)) | (apply Ab.K.gk; first | (apply Xg.s; constructor) | (apply Ab.gY; case hw => assumption) | (apply Ab.gNT; case hw => assumption) | (apply Ab.gNF; case hw => assumption) | ((first | apply Ab.gD | apply Ab.gDN); all_goals (intro _ _; (first | contradiction | (exfalso; omega) | skip)))) | (apply Ab.K.awp; first | (apply Xg.s; constructor)) | (apply Ab.K.at_; exact at_) | (apply Ab.K.acall; first | assumption | fail) | (apply Ab.Rg.mk; omega) | (apply Ab.Lt.mk; first | decide | (simp; done) | (simp; omega) | omega) | (apply Ab.Get.mk; first | rfl | fail) | (apply Ab.Nm.mk; first | exact Eq.trans (congrArg (fun z => List.take _ (List.drop (z * 3) cs)) (Int.toNat_natCast i)) hc3 | exact nrm_) | (apply Xg.s; constructor) | (apply Ab.asm; assumption) | rfl | infer_instance | decide))
    all_goals ((first | apply RetE.ret | apply RetE.normal); (case he => exact evr_); (case hg => rfl))
    all_goals first | exact .inl ⟨i, h1, h2, h3, congrArg Value.bool (by simp), hI⟩ | exact Keeps.ext (hX _ _ hI) (plR.nm rfl)
  · clear hc
    (repeat' (first | (apply Ab.K.ev; exact ev_) | (apply Ab.K.aops; first | (apply Xg.s; constructor) | (apply Ab.S.guardU; (case hd => rfl); (case hb => (exact ev_; done))) | apply Ab.S.guardG) | (apply Ab.K.aop; first | (apply Og.s; constructor)) | (apply Ab.K.gk; first | (apply Xg.s; constructor) | (apply Ab.gY; case hw => assumption) | (apply Ab.gNT; case hw => assumption) | (apply Ab.gNF; case hw => assumption) | ((first | apply Ab.gD | apply Ab.gDN); all_goals (intro _ _; (first | contradiction | (exfalso; omega) | skip)))) | (apply Ab.K.awp; first | (apply Xg.s; constructor)) | (apply Ab.K.at_; exact at_) | (apply Ab.K.acall; first | assumption | fail) | (apply Ab.Rg.mk; omega) | (apply Ab.Lt.mk; first | decide | (simp; done) | (simp; omega) | omega) | (apply Ab.Get.mk; first | rfl | fail) | (apply Ab.Nm.mk; first | exact Eq.trans (congrArg (fun z => List.take _ (List.drop (z * 3) cs)) (Int.toNat_natCast i)) hc3 | exact nrm_) | (apply Xg.s; constructor) | (apply Ab.asm; assumption) | rfl | infer_instance | decide))
    all_goals ((first | apply RetE.ret | apply RetE.normal); (case he => exact evr_); (case hg => rfl))
    all_goals first | exact .inr ⟨h1, rfl, hI⟩ | exact Keeps.ext (hX _ _ hI) (plR.nm rfl)
end Go.Proofs.Ytdbnpghckgmaoaa

/- trees: one behind the other. -/
namespace Go.Proofs.Ytdbnpghckgmaoaa
set_option linter.unusedVariables false
set_option linter.unusedSimpArgs false
set_option linter.unusedSectionVars false
open Go.RowKit Ab TP
attribute [local irreducible] AOps AOpsD AOp AWp put nargs AHeap.set At Free ACall ACallE thenQ blockQ roundQ RetQ RetE Src bsn
theorem other_has {e : E} {n : Int} (h : 0 < other e n) : e.has n (other e n) := by
  unfold other at *
  split
  · rename_i h1; exact .inl ⟨h1, rfl⟩
  · rename_i h1
    rw [if_neg h1] at h
    split
    · rename_i h2; exact .inr ⟨rfl, h2⟩
    · rename_i h2; rw [if_neg h2] at h; omega
theorem has_other {e : E} (hm : e.may) {n y : Int} (h : e.has n y) : other e n = y := by
  have := hm.2.2.1
  unfold other
  rcases h with ⟨h1, h2⟩ | ⟨h1, h2⟩
  · rw [if_pos h1, h2]
  · rw [if_neg (by omega), if_pos h2, h1]
theorem ints_zeros (n : Nat) : ints (List.replicate n (0 : Int)) = List.replicate n (.int .i64 0) := by simp [ints]
set_option maxRecDepth 4000 in
set_option maxHeartbeats 4000000 in
theorem ups30 {s : AHeap} {A : Option Addr} {n c : Nat} {on : Option Nat} {l : List E} {root : Int} (h : EA s (.slice A n c) on l) (hg : TP.Good l) (hr : TP.Node root) (hn : n ≤ 512) :
    ACallE Try.prog 51 [.slice A n c, .int .i64 root] s (fun v s' => ∃ U Q u, v = .slice (some ⟨u, 0, none⟩) 65 65 ∧ s u = none ∧ s' = s.set u (.cells true 1 (ints U)) ∧ Bfs l root U Q Q) := by
  have hnl : n = l.length := by obtain ⟨_, _, e⟩ := h.isl; injection e
  have hr' : 1 ≤ root ∧ root ≤ 64 := hr
  refine ACallE.make Try.func51 rfl (by kernel_rfl) (by decide) rfl (fun N hN => ?_)
  have hT : Top N s := hN
  have hmk : amakeSlice Try.prog 22 s (.int .i64 65) (.int .i64 65) N = some (.slice (some ⟨N, 0, none⟩) 65 65, s.set N (.cells true 1 (ints (List.replicate 65 0)))) := by
    have h25 : tdOf Try.prog 22 = some ⟨.slice 3, 1, 24, .slice none 0 0⟩ := by kernel_rfl
    have h3 : tdOf Try.prog 3 = some ⟨.int .i64, 1, 8, .int .i64 0⟩ := by kernel_rfl
    have hf := hT.none (Nat.le_refl N)
    simp only [amakeSlice, h25, h3]
    simp [hf, plB, pl1, plA, Value.cells, zrep, ints]


  (repeat' (first | (apply Ab.K.ev; exact ev_) | (apply Ab.K.aops; first | (apply Xg.s; constructor) | (apply Ab.S.guardU; (case hd => rfl); (case hb => (exact ev_; done))) | apply Ab.S.guardG) | (apply Ab.K.aop; first | (first | (apply Ab.O.makeSlice N; (case hx => exact ev_); (case hy => exact ev_); (case hv => exact hmk)) | (apply Ab.O.build1 (N + 1); (case hx => exact ev_); (case hv => exact ⟨rfl, rfl⟩); (case hz => exact ⟨rfl, rfl⟩); (case hid => exact free_))) | (apply Og.s; constructor)) | (apply Ab.K.gk; first | (apply Xg.s; constructor) | (apply Ab.gY; case hw => assumption) | (apply Ab.gNT; case hw => assumption) | (apply Ab.gNF; case hw => assumption) | ((first | apply Ab.gD | apply Ab.gDN); all_goals (intro _ _; (first | contradiction | (exfalso; omega) | skip)))) | (apply Ab.K.awp; first | (apply Xg.s; constructor)) | (apply Ab.K.at_; exact at_) | (apply Ab.K.acall; first | assumption | fail) | (apply Ab.Rg.mk; omega) | (apply Ab.Lt.mk; first | decide | (simp; done) | (simp; omega) | (rw [ints_length]; simp; omega)) | (apply Ab.Get.mk; first | rfl | fail) | (apply Ab.Nm.mk; first | exact ints_set _ _ _ | exact nrm_) | (apply Xg.s; constructor) | (apply Ab.asm; assumption) | rfl | infer_instance | decide))
  have B0 := Bfs.start (l := l) hr
  refine AWp.loop (fun kk tm s1 => ∃ (u q off M : Nat) (U cl todo : List Int) (cs : List Value), Ev tm (.tmp 0) (.slice A n c) ∧ Ev tm (.tmp 5) (.slice (some ⟨u, 0, none⟩) 65 65) ∧ Ev tm (.tmp 6) (.slice (some ⟨q, off, none⟩) todo.length todo.length) ∧ At s1 u (.cells true 1 (ints U)) ∧ At s1 q (.cells true 1 cs) ∧ off + todo.length ≤ cs.length ∧ (cs.drop off).take todo.length = ints todo ∧ u ≠ q ∧ N ≤ u ∧ N ≤ q ∧ Fr s1 s [] ∧ Top M s1 ∧ Bfs l root U cl (cl ++ todo) ∧ kk = 64 - cl.length) 64 ?_ ?_
  · exact ⟨N, N + 1, 0, N + 2, _, [], [root], [.int .i64 root], by exact ev_, by exact ev_, by exact ev_, by exact at_, by exact at_, by simp, rfl, by omega, Nat.le_refl _, by omega, by exact fr_, by exact top_, B0, rfl⟩
  clear B0 hmk
  rintro kk tm s1 ⟨u, q, off, M, U, cl, todo, cs, e0, e5, e6, a5, a6, hcs, hct, huq, hu, hq, F, T, B, hkk⟩
  have huM := T.lt a5
  have hqM := T.lt a6
  have hlen := pigeon 64 _ B.ord B.node
  rw [List.length_append] at hlen
  cases todo with
  | nil =>
    rw [List.append_nil] at B
    (repeat' (first | (apply Ab.K.ev; exact ev_) | (apply Ab.K.aops; first | (apply Xg.s; constructor) | (apply Ab.S.guardU; (case hd => rfl); (case hb => (exact ev_; done))) | apply Ab.S.guardG) | (apply Ab.K.aop; first | (apply Og.s; constructor)) | (apply Ab.K.gk; first | (apply Xg.s; constructor) | (apply Ab.gY; case hw => assumption) | (apply Ab.gNT; case hw => assumption) | (apply Ab.gNF; case hw => assumption) | ((first | apply Ab.gD | apply Ab.gDN); all_goals (intro _ _; (first | contradiction | (exfalso; omega) | skip)))) | (apply Ab.K.awp; first | (apply Xg.s; constructor)) | (apply Ab.K.at_; exact at_) | (apply Ab.K.acall; first | assumption | fail) | (apply Ab.Rg.mk; omega) | (apply Ab.Lt.mk; first | decide | (simp; done) | (simp; omega) | (rw [ints_length]; simp; omega)) | (apply Ab.Get.mk; first | rfl | fail) | (apply Ab.Nm.mk; first | exact ints_set _ _ _ | exact nrm_) | (apply Xg.s; constructor) | (apply Ab.asm; assumption) | rfl | infer_instance | decide))
    apply RetE.ret
    (case he => exact evr_)
    (case hg => rfl)
    (case hq => exact ⟨U, cl, u, rfl, hT.none hu, rfl, B⟩)
    exact Keeps.upd [(u, _)] (fun i _ c hc => F i (by simp) c hc) ⟨⟨a5, nm_scal (ints_pl _)⟩, trivial⟩ (updH_some (.inr (by simp)))
  | cons n0 t =>
    have hcz : ∀ j z, (n0 :: t)[j]? = some z → cs[off + j]? = some (.int .i64 z) := fun j z hz => by
      have h1 := ints_get hz
      rw [← hct, List.getElem?_take, if_pos (List.getElem?_eq_some_iff.1 hz).1, List.getElem?_drop] at h1
      exact h1
    have g0 : cs[off + 0 * 1]? = some (.int .i64 n0) := hcz 0 n0 rfl
    simp only [List.length_cons] at hlen hcs e6
    have hct2 : (cs.drop (off + 1)).take t.length = ints t := by
      have : (cs.drop off).take (n0 :: t).length = ints [n0] ++ ints t := by rw [hct]; rfl
      have h2 := congrArg (List.drop 1) this
      rw [List.drop_take, List.drop_drop] at h2
      exact h2
    have hn0 := B.node n0 (by simp)
    (repeat' (first | (apply Ab.K.ev; exact ev_) | (apply Ab.K.aops; first | (apply Xg.s; constructor) | (apply Ab.S.guardU; (case hd => rfl); (case hb => (exact ev_; done))) | apply Ab.S.guardG) | (apply Ab.K.aop; first | (apply Og.s; constructor)) | (apply Ab.K.gk; first | (apply Xg.s; constructor) | (apply Ab.gY; case hw => assumption) | (apply Ab.gNT; case hw => assumption) | (apply Ab.gNF; case hw => assumption) | ((first | apply Ab.gD | apply Ab.gDN); all_goals (intro _ _; (first | contradiction | (exfalso; omega) | skip)))) | (apply Ab.K.awp; first | (apply Xg.s; constructor)) | (apply Ab.K.at_; exact at_) | (apply Ab.K.acall; first | assumption | fail) | (apply Ab.Rg.mk; omega) | (apply Ab.Lt.mk; first | decide | (simp; done) | (simp; omega) | (rw [ints_length]; simp; omega)) | (apply Ab.Get.mk; first | rfl | first | exact g0) | (apply Ab.Nm.mk; first | exact ints_set _ _ _ | exact nrm_) | (apply Xg.s; constructor) | (apply Ab.asm; assumption) | rfl | infer_instance | decide))
    refine AWp.loop (fun k2 tm s2 => ∃ (i q off M : Nat) (U t : List Int) (cs : List Value), Ev tm (.tmp 0) (.slice A n c) ∧ Ev tm (.tmp 5) (.slice (some ⟨u, 0, none⟩) 65 65) ∧ Ev tm (.tmp 6) (.slice (some ⟨q, off, none⟩) t.length t.length) ∧ Ev tm (.tmp 7) (.int .i64 n0) ∧ Ev tm (.tmp 26) (.slice A n c) ∧ Ev tm (.tmp 27) (.int .i64 n) ∧ Ev tm (.tmp 28) (.int .i64 i) ∧ At s2 u (.cells true 1 (ints U)) ∧ At s2 q (.cells true 1 cs) ∧ off + t.length ≤ cs.length ∧ (cs.drop off).take t.length = ints t ∧ u ≠ q ∧ N ≤ q ∧ Fr s2 s [] ∧ Top M s2 ∧ Bfs l root U cl (cl ++ n0 :: t) ∧ (∀ e ∈ l.take i, ∀ y, e.has n0 y → y ∈ cl ++ n0 :: t) ∧ i ≤ n ∧ k2 = n - i) n ?_ ?_
    · exact ⟨0, q, off + 1, M, U, t, cs, by exact ev_, by exact ev_, by exact ev_, by exact ev_, by exact ev_, by exact ev_, by exact ev_, a5, a6, by omega, hct2, huq, hq, F, T, B, (fun e he => by simp at he), by omega, rfl⟩
    clear a5 a6 hct hct2 hcs hcz g0 F T B e0 e5 e6 huM hqM hq huq
    rintro k2 tm s2 ⟨i, q, off, M, U, t, cs, e0, e5, e6, e7, e26, e27, e28, a5, a6, hcs, hct, huq, hq, F, T, B, hask, hi, hk2⟩
    have huM := T.lt a5
    have hqM := T.lt a6
    have hn0' : 1 ≤ n0 ∧ n0 ≤ 64 := hn0
    by_cases hin : i < n
    · have hi' : l[i]? = some (l[i]'(by omega)) := List.getElem?_eq_getElem (by omega)
      obtain ⟨e, hee⟩ : ∃ e, e = l[i]'(by omega) := ⟨_, rfl⟩
      rw [← hee] at hi'
      have hel := List.mem_of_getElem? hi'
      have hem := hg.1 e hel
      have m1 : 1 ≤ e.a ∧ e.a ≤ 64 := hem.1
      have m2 : 1 ≤ e.b ∧ e.b ≤ 64 := hem.2.1
      have htk : l.take (i + 1) = l.take i ++ [e] := by rw [List.take_add_one, hi']; rfl
      obtain ⟨qq, rw1, ds, rfl, hon, _, hq', _, hE, _⟩ := (h.fr F).elt hi'
      have hqN := h.lt hT qq hon
      have c36 : ∀ s : AHeap, ACall Try.prog 40 [.agg (ec e).toArray, .int .i64 n0] s (.int .i64 (other e n0)) s := fun s => other36
      obtain ⟨ov, hov⟩ : ∃ ov, ov = other e n0 := ⟨_, rfl⟩
      rw [← hov] at c36
      have hovr : 0 ≤ ov ∧ ov ≤ 64 := by rw [hov]; unfold other; (repeat' split) <;> omega
      have hyo : ∀ y, e.has n0 y → y = ov := fun y hy => by rw [hov]; exact (has_other hem hy).symm
      have hinU : JP.In U ov := ⟨hovr.1, by rw [B.len]; omega⟩
      have gU := ints_at hinU




      by_cases hgo : 0 < ov ∧ JP.g U ov = 0
      · obtain ⟨hov0, hgz⟩ := hgo
        rw [hgz] at gU
        have hhas : e.has n0 ov := by rw [hov] at hov0 ⊢; exact other_has hov0
        have B2 := B.push (n := n0) (o := ov) (by simp) ⟨e, hel, hhas⟩ ⟨by omega, hovr.2⟩ hgz
        have hlen2 := pigeon 64 _ B2.ord B2.node
        simp only [List.length_append, List.length_cons] at hlen2
        (repeat' (first | (apply Ab.K.ev; exact ev_) | (apply Ab.K.aops; first | (apply Xg.s; constructor) | (apply Ab.S.guardU; (case hd => rfl); (case hb => (exact ev_; done))) | apply Ab.S.guardG) | (apply Ab.K.aop; first | (first | (first | (apply Ab.O.allocA (l := ec ⟨0, 0, 0⟩) M; (case hid => exact T.free (Nat.le_refl _)); (case hp => rfl)) | (apply Ab.O.storeAll; (case hz => rfl); (case hx => exact ev_); (case hy => exact ev_); (case hs => exact at_); (case hl => rfl); (case hc => rfl))) | (apply Ab.O.build1 (M + 1); (case hx => exact ev_); (case hv => exact ⟨rfl, rfl⟩); (case hz => exact ⟨rfl, rfl⟩); (case hid => exact free_))) | (apply Og.s; constructor)) | (apply Ab.K.gk; first | (apply Xg.s; constructor) | (apply Ab.gY; case hw => assumption) | (apply Ab.gNT; case hw => assumption) | (apply Ab.gNF; case hw => assumption) | ((first | apply Ab.gD | apply Ab.gDN); all_goals (intro _ _; (first | contradiction | (exfalso; omega) | skip)))) | (apply Ab.K.awp; first | (apply Xg.s; constructor)) | (apply Ab.K.at_; exact at_) | (apply Ab.K.acall; first | assumption | exact c36 _) | (apply Ab.Rg.mk; omega) | (apply Ab.Lt.mk; first | decide | (simp; done) | (simp; omega) | first | omega | (show (0 + 3 : Nat) < 3 + 1; decide) | (rw [ints_length, B.len]; omega)) | (apply Ab.Get.mk; first | rfl | first | exact gU | (rw [Nat.mul_one]; exact gU)) | (apply Ab.Nm.mk; first | first | exact ints_set _ _ _ | exact Eq.trans (congrArg (fun z => List.take _ (List.drop (z * 3) ds)) (Int.toNat_natCast i)) hE | exact (show ((ec e).drop 0).take 3 = ec e from rfl) | exact nrm_) | (apply Xg.s; constructor) | (apply Ab.asm; assumption) | rfl | infer_instance | decide))
        apply Ab.O.appendMove (M + 2) (es := 1) (n := t.length) (c := t.length) (m := 1) (off := off) (cs := cs) (xs := [.int .i64 ov]) (old := ints t)
        (case hx => exact ev_)
        (case hy => exact ev_)
        (case hs => exact srcAll At.hit rfl)
        (case ha => exact at_)
        (case hk => rfl)
        (case hm => decide)
        (case hr => omega)
        (case hl => rfl)
        (case hz => decide)
        (case hb => omega)
        (case hid => exact free_)
        (case ho => omega)
        (case hold => (rw [Nat.mul_one]; exact hct))
        (repeat' (first | (apply Ab.K.ev; exact ev_) | (apply Ab.K.aops; first | (apply Xg.s; constructor) | (apply Ab.S.guardU; (case hd => rfl); (case hb => (exact ev_; done))) | apply Ab.S.guardG) | (apply Ab.K.aop; first | (apply Og.s; constructor)) | (apply Ab.K.gk; first | (apply Xg.s; constructor) | (apply Ab.gY; case hw => assumption) | (apply Ab.gNT; case hw => assumption) | (apply Ab.gNF; case hw => assumption) | ((first | apply Ab.gD | apply Ab.gDN); all_goals (intro _ _; (first | contradiction | (exfalso; omega) | skip)))) | (apply Ab.K.awp; first | (apply Xg.s; constructor)) | (apply Ab.K.at_; exact at_) | (apply Ab.K.acall; first | assumption | exact c36 _) | (apply Ab.Rg.mk; omega) | (apply Ab.Lt.mk; first | decide | (simp; done) | (simp; omega) | first | omega | (show (0 + 3 : Nat) < 3 + 1; decide) | (rw [ints_length, B.len]; omega)) | (apply Ab.Get.mk; first | rfl | first | exact gU | (rw [Nat.mul_one]; exact gU)) | (apply Ab.Nm.mk; first | first | exact ints_set _ _ _ | exact Eq.trans (congrArg (fun z => List.take _ (List.drop (z * 3) ds)) (Int.toNat_natCast i)) hE | exact (show ((ec e).drop 0).take 3 = ec e from rfl) | exact nrm_) | (apply Xg.s; constructor) | (apply Ab.asm; assumption) | rfl | infer_instance | decide))
        have B3 : Bfs l root (U.set ov.toNat n0) cl (cl ++ n0 :: (t ++ [ov])) := by
          have := B2; rwa [List.append_assoc, List.cons_append] at this
        refine X.roundN (n - (i + 1)) (by omega) ⟨i + 1, M + 2, 0, M + 3, U.set ov.toNat n0, t ++ [ov], ints t ++ [.int .i64 ov], by exact ev_, by exact ev_, by rw [List.length_append]; exact ev_, by exact ev_, by exact ev_, by exact ev_, by exact ev_, by exact at_, At.hit, ?_, ?_, by omega, by omega, by exact fr_, by exact top_, B3, fun f hf y hy => ?_, by omega, rfl⟩
        · rw [List.length_append, List.length_append, ints_length]; simp
        · rw [List.drop_zero, ints_append]; exact List.take_of_length_le (by rw [List.length_append, List.length_append, ints_length]; simp)
        · rw [htk] at hf
          rcases List.mem_append.1 hf with hf | hf
          · have := hask f hf y hy
            rcases List.mem_append.1 this with h1 | h1
            · exact List.mem_append_left _ h1
            · refine List.mem_append_right _ ?_
              rcases List.mem_cons.1 h1 with h1 | h1
              · rw [h1]; exact List.mem_cons_self
              · exact List.mem_cons_of_mem _ (List.mem_append_left _ h1)
          · rw [List.mem_singleton.1 hf] at hy
            rw [hyo y hy]; simp
      · have hask2 : ∀ f ∈ l.take (i + 1), ∀ y, f.has n0 y → y ∈ cl ++ n0 :: t := fun f hf y hy => by
          rw [htk] at hf
          rcases List.mem_append.1 hf with hf | hf
          · exact hask f hf y hy
          · rw [List.mem_singleton.1 hf] at hy
            have hyv := hyo y hy
            have hy1 : 0 < y := by rcases hy with ⟨_, h2⟩ | ⟨h1, _⟩ <;> omega
            refine (B.mem y (by omega) (by omega)).1 fun hz => hgo ⟨by omega, by rw [← hyv]; exact hz⟩
        by_cases hov0 : 0 < ov
        · have hgz : JP.g U ov ≠ 0 := fun hz => hgo ⟨hov0, hz⟩
          (repeat' (first | (apply Ab.K.ev; exact ev_) | (apply Ab.K.aops; first | (apply Xg.s; constructor) | (apply Ab.S.guardU; (case hd => rfl); (case hb => (exact ev_; done))) | apply Ab.S.guardG) | (apply Ab.K.aop; first | (first | (apply Ab.O.allocA (l := ec ⟨0, 0, 0⟩) M; (case hid => exact T.free (Nat.le_refl _)); (case hp => rfl)) | (apply Ab.O.storeAll; (case hz => rfl); (case hx => exact ev_); (case hy => exact ev_); (case hs => exact at_); (case hl => rfl); (case hc => rfl))) | (apply Og.s; constructor)) | (apply Ab.K.gk; first | (apply Xg.s; constructor) | (apply Ab.gY; case hw => assumption) | (apply Ab.gNT; case hw => assumption) | (apply Ab.gNF; case hw => assumption) | ((first | apply Ab.gD | apply Ab.gDN); all_goals (intro _ _; (first | contradiction | (exfalso; omega) | skip)))) | (apply Ab.K.awp; first | (apply Xg.s; constructor)) | (apply Ab.K.at_; exact at_) | (apply Ab.K.acall; first | assumption | exact c36 _) | (apply Ab.Rg.mk; omega) | (apply Ab.Lt.mk; first | decide | (simp; done) | (simp; omega) | first | omega | (show (0 + 3 : Nat) < 3 + 1; decide) | (rw [ints_length, B.len]; omega)) | (apply Ab.Get.mk; first | rfl | first | exact gU | (rw [Nat.mul_one]; exact gU)) | (apply Ab.Nm.mk; first | first | exact ints_set _ _ _ | exact Eq.trans (congrArg (fun z => List.take _ (List.drop (z * 3) ds)) (Int.toNat_natCast i)) hE | exact (show ((ec e).drop 0).take 3 = ec e from rfl) | exact nrm_) | (apply Xg.s; constructor) | (apply Ab.asm; assumption) | rfl | infer_instance | decide))
          exact X.roundN (n - (i + 1)) (by omega) ⟨i + 1, q, off, M + 1, U, t, cs, by exact ev_, by exact ev_, by exact ev_, by exact ev_, by exact ev_, by exact ev_, by exact ev_, by exact at_, by exact at_, hcs, hct, huq, hq, by exact fr_, by exact top_, B, hask2, by omega, rfl⟩
        · (repeat' (first | (apply Ab.K.ev; exact ev_) | (apply Ab.K.aops; first | (apply Xg.s; constructor) | (apply Ab.S.guardU; (case hd => rfl); (case hb => (exact ev_; done))) | apply Ab.S.guardG) | (apply Ab.K.aop; first | (first | (apply Ab.O.allocA (l := ec ⟨0, 0, 0⟩) M; (case hid => exact T.free (Nat.le_refl _)); (case hp => rfl)) | (apply Ab.O.storeAll; (case hz => rfl); (case hx => exact ev_); (case hy => exact ev_); (case hs => exact at_); (case hl => rfl); (case hc => rfl))) | (apply Og.s; constructor)) | (apply Ab.K.gk; first | (apply Xg.s; constructor) | (apply Ab.gY; case hw => assumption) | (apply Ab.gNT; case hw => assumption) | (apply Ab.gNF; case hw => assumption) | ((first | apply Ab.gD | apply Ab.gDN); all_goals (intro _ _; (first | contradiction | (exfalso; omega) | skip)))) | (apply Ab.K.awp; first | (apply Xg.s; constructor)) | (apply Ab.K.at_; exact at_) | (apply Ab.K.acall; first | assumption | exact c36 _) | (apply Ab.Rg.mk; omega) | (apply Ab.Lt.mk; first | decide | (simp; done) | (simp; omega) | first | omega | (show (0 + 3 : Nat) < 3 + 1; decide) | (rw [ints_length, B.len]; omega)) | (apply Ab.Get.mk; first | rfl | first | exact gU | (rw [Nat.mul_one]; exact gU)) | (apply Ab.Nm.mk; first | first | exact ints_set _ _ _ | exact Eq.trans (congrArg (fun z => List.take _ (List.drop (z * 3) ds)) (Int.toNat_natCast i)) hE | exact (show ((ec e).drop 0).take 3 = ec e from rfl) | exact nrm_) | (apply Xg.s; constructor) | (apply Ab.asm; assumption) | rfl | infer_instance | decide))
          exact X.roundN (n - (i + 1)) (by omega) ⟨i + 1, q, off, M + 1, U, t, cs, by exact ev_, by exact ev_, by exact ev_, by exact ev_, by exact ev_, by exact ev_, by exact ev_, by exact at_, by exact at_, hcs, hct, huq, hq, by exact fr_, by exact top_, B, hask2, by omega, rfl⟩
    · obtain rfl : i = n := by omega
      rw [hnl, List.take_length] at hask
      have B2 : Bfs l root U (cl ++ [n0]) ((cl ++ [n0]) ++ t) := by
        have := B.close (n := n0) (fun y ⟨e, he, hy⟩ => hask e he y hy)
        rwa [List.append_assoc, List.singleton_append]
      (repeat' (first | (apply Ab.K.ev; exact ev_) | (apply Ab.K.aops; first | (apply Xg.s; constructor) | (apply Ab.S.guardU; (case hd => rfl); (case hb => (exact ev_; done))) | apply Ab.S.guardG) | (apply Ab.K.aop; first | (apply Og.s; constructor)) | (apply Ab.K.gk; first | (apply Xg.s; constructor) | (apply Ab.gY; case hw => assumption) | (apply Ab.gNT; case hw => assumption) | (apply Ab.gNF; case hw => assumption) | ((first | apply Ab.gD | apply Ab.gDN); all_goals (intro _ _; (first | contradiction | (exfalso; omega) | skip)))) | (apply Ab.K.awp; first | (apply Xg.s; constructor)) | (apply Ab.K.at_; exact at_) | (apply Ab.K.acall; first | assumption | exact c36 _) | (apply Ab.Rg.mk; omega) | (apply Ab.Lt.mk; first | decide | (simp; done) | (simp; omega) | first | omega | (show (0 + 3 : Nat) < 3 + 1; decide) | (rw [ints_length, B.len]; omega)) | (apply Ab.Get.mk; first | rfl | first | exact gU | (rw [Nat.mul_one]; exact gU)) | (apply Ab.Nm.mk; first | first | exact ints_set _ _ _ | exact Eq.trans (congrArg (fun z => List.take _ (List.drop (z * 3) ds)) (Int.toNat_natCast i)) hE | exact (show ((ec e).drop 0).take 3 = ec e from rfl) | exact nrm_) | (apply Xg.s; constructor) | (apply Ab.asm; assumption) | rfl | infer_instance | decide))
      exact X.roundN (64 - (cl ++ [n0]).length) (by rw [List.length_append]; simp; omega) ⟨u, q, off, M, U, cl ++ [n0], t, cs, by exact ev_, by exact ev_, by exact ev_, a5, a6, hcs, hct, huq, hu, hq, F, T, B2, rfl⟩
end Go.Proofs.Ytdbnpghckgmaoaa
