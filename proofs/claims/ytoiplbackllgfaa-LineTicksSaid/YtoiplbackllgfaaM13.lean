/- texts of this claim, one behind the other: LE, LF, LG, LN. -/
import Derived.Test.YtoiplbackllgfaaM12

/- lines: senders: which may be, and which are alike, by the program and by the document. -/
namespace Go.Proofs.Ytoiplbackllgfaa
set_option linter.unusedVariables false
set_option linter.unusedSimpArgs false
set_option linter.unusedSectionVars false
open Go.RowKit Ab HP
attribute [local irreducible] AOps AOpsD AOp AWp put nargs AHeap.set At Free ACall ACallE thenQ blockQ roundQ RetQ RetE Src Gr
theorem O.iffNe {P : Program} {tm : Env} {s : AHeap} {K : Value → AHeap → Prop} {d : Option Tmp} {t : TypeId} {p : String} {af : Array Edge} {gd : Option (Nat × Bool)} {x y : Operand} {ty xt : TypeId} {sz by_ : Nat} {z : Value} [h1 : HasTD P xt ⟨.bool, sz, by_, z⟩] {φ ψ : Prop} {i1 : Decidable φ} {i2 : Decidable ψ}
    (hx : Ev tm x (.bool (decide φ))) (hy : Ev tm y (.bool (decide ψ))) (h : K (.bool (decide (¬ (φ ↔ ψ)))) s) : AOp P ⟨d, .binOp .neq xt x y ty, t, p, af, gd⟩ tm s K := by
  refine Ab.O.boolNe hx hy ?_
  have : (!(decide φ == decide ψ)) = decide (¬ (φ ↔ ψ)) := by by_cases a : φ <;> by_cases b : ψ <;> simp [a, b]
  rw [this]; exact h
set_option maxHeartbeats 4000000 in
theorem checkS' {s : AHeap} {base sent clock : Int} {v : Value} {q : List (List Int)} (h : Qt s v q) (hq : q.length ≤ 1000000000) :
    ACall Try.prog 43 [.agg #[.int .i64 base, .int .i64 sent, v, .int .i64 clock]] s (.int .i64 (if Sd.May ⟨base, sent, q, clock⟩ then 0 else 1)) s := by
  refine ACall.make Try.func43 rfl (by kernel_rfl) (by decide) rfl (fun N hN0 => ?_)
  have hT : Top N s := hN0
  have F1 : Fr (s.set N (.cells true 1 [.int .i64 base, .int .i64 sent, v, .int .i64 clock])) s [] := Fr.new (hT.free (Nat.le_refl _)) (Fr.refl _ _)
  have cc := contains73 (h.sub datQ (Sub.new (c := .cells true 1 [.int .i64 base, .int .i64 sent, v, .int .i64 clock]) (hT.none (Nat.le_refl _)))) hq
  obtain ⟨A, cap, rfl, hcap⟩ := h.isl
  by_cases hO : Sd.Ok ⟨base, sent, q, clock⟩
  · have hO' := hO
    simp only [Sd.Ok] at hO'
    by_cases hb : big q
    case' pos => rw [if_neg (fun h => h.2 hb)]; rw [decide_eq_true hb] at cc
    case' neg => rw [if_pos ⟨hO, hb⟩]; rw [decide_eq_false hb] at cc
    all_goals clear hO hb h
    all_goals (repeat' (first | (apply Ab.K.ev; exact ev_) | (apply Ab.K.aops; first | (apply Xg.s; constructor) | apply Ab.S.guardG) | (apply Ab.K.aop; first | (first | (apply Ab.O.boxA (N + 0); (case hx => exact ev_); (case hid => exact frees_)) | (apply Ab.O.allocA (N + 0); (case hid => exact frees_); (case hp => rfl)) | (apply Ab.O.allocA (N + 1); (case hid => exact frees_); (case hp => rfl))) | (apply O.iffNe; (case hx => exact ev_); (case hy => exact ev_)) | (apply Og.s; constructor)) | (apply Ab.K.gk; first | (apply Xg.s; constructor) | (apply Ab.gY; case hw => assumption) | (apply Ab.gNT; case hw => assumption) | (apply Ab.gNF; case hw => assumption) | ((first | apply Ab.gD | apply Ab.gDN); all_goals (intro _ _; (first | contradiction | (exfalso; omega) | skip)))) | (apply Ab.K.awp; first | (apply Xg.s; constructor)) | (apply Ab.K.at_; exact at_) | (apply Ab.K.acall; first | assumption | fail) | (apply Ab.Rg.mk; omega) | (apply Ab.Lt.mk; first | decide | (simp; done) | (simp; omega) | fail) | (apply Ab.Get.mk; first | rfl | fail) | (apply Ab.Nm.mk; first | exact nrm_) | (apply Xg.s; constructor) | (apply Ab.asm; assumption) | rfl | infer_instance | decide))
    all_goals ((first | apply RetQ.ret | apply RetQ.normal); (case he => exact evr_); (case hg => rfl))
    all_goals first | rfl | exact Keeps.fr F1 (plR.nm rfl)
  · rw [if_neg (fun h => hO h.1)]
    simp only [Sd.Ok] at hO
    clear h
    (repeat' (first | (apply Ab.K.ev; exact ev_) | (apply Ab.K.aops; first | (apply Xg.s; constructor) | apply Ab.S.guardG) | (apply Ab.K.aop; first | (first | (apply Ab.O.boxA (N + 0); (case hx => exact ev_); (case hid => exact frees_)) | (apply Ab.O.allocA (N + 0); (case hid => exact frees_); (case hp => rfl)) | (apply Ab.O.allocA (N + 1); (case hid => exact frees_); (case hp => rfl))) | (apply O.iffNe; (case hx => exact ev_); (case hy => exact ev_)) | (apply Og.s; constructor)) | (apply Ab.K.gk; first | (apply Xg.s; constructor) | (apply Ab.gY; case hw => assumption) | (apply Ab.gNT; case hw => assumption) | (apply Ab.gNF; case hw => assumption) | ((first | apply Ab.gD | apply Ab.gDN); all_goals (intro _ _; (first | contradiction | (exfalso; omega) | skip)))) | (apply Ab.K.awp; first | (apply Xg.s; constructor)) | (apply Ab.K.at_; exact at_) | (apply Ab.K.acall; first | assumption | fail) | (apply Ab.Rg.mk; omega) | (apply Ab.Lt.mk; first | decide | (simp; done) | (simp; omega) | fail) | (apply Ab.Get.mk; first | rfl | fail) | (apply Ab.Nm.mk; first | exact nrm_) | (apply Xg.s; constructor) | (apply Ab.asm; assumption) | rfl | infer_instance | decide))
    all_goals ((first | apply RetQ.ret | apply RetQ.normal); (case he => exact evr_); (case hg => rfl))
    all_goals first | rfl | exact Keeps.fr F1 (plR.nm rfl)
theorem checkS {s : AHeap} {c : List Value} {x : Sd} (h : RS s c x) (hq : x.q.length ≤ 1000000000) : ACall Try.prog 43 [.agg c.toArray] s (.int .i64 (if x.May then 0 else 1)) s := by
  obtain ⟨v, rfl, hv⟩ := h
  exact checkS' hv hq
set_option maxHeartbeats 4000000 in
theorem mayS' {s : AHeap} {base sent clock : Int} {v : Value} {q : List (List Int)} (h : Qt s v q) (hq : q.length ≤ 1000000000) :
    ACall Try.prog 38 [.agg #[.int .i64 base, .int .i64 sent, v, .int .i64 clock]] s (.bool (decide (Sd.May ⟨base, sent, q, clock⟩))) s := by
  refine ACall.make Try.func38 rfl (by kernel_rfl) (by decide) rfl (fun N hN0 => ?_)
  have hT : Top N s := hN0
  obtain ⟨bx, hbx⟩ : ∃ bx : ABlk, bx = .cells true 1 [.int .i64 base, .int .i64 sent, v, .int .i64 clock] := ⟨_, rfl⟩
  have F1 : Fr (s.set N bx) s [] := Fr.new (hT.free (Nat.le_refl _)) (Fr.refl _ _)
  have hS : Sub s (s.set N bx) := Sub.new (hT.none (Nat.le_refl _))
  have aN : At (s.set N bx) N (.cells true 1 [.int .i64 base, .int .i64 sent, v, .int .i64 clock]) := by rw [← hbx]; exact At.hit
  obtain ⟨A, cap, rfl, hcap⟩ := h.isl
  (repeat' (first | (apply Ab.K.ev; exact ev_) | (apply Ab.K.aops; first | (apply Xg.s; constructor) | apply Ab.S.guardG) | (apply Ab.K.aop; first | (first | (apply Ab.O.boxA (N + 0); (case hx => exact ev_); (case hid => exact frees_)) | (apply Ab.O.allocA (N + 0); (case hid => exact frees_); (case hp => rfl)) | (apply Ab.O.allocA (N + 1); (case hid => exact frees_); (case hp => rfl))) | (apply Og.s; constructor)) | (apply Ab.K.gk; first | (apply Xg.s; constructor) | (apply Ab.gY; case hw => assumption) | (apply Ab.gNT; case hw => assumption) | (apply Ab.gNF; case hw => assumption) | ((first | apply Ab.gD | apply Ab.gDN); all_goals (intro _ _; (first | contradiction | (exfalso; omega) | skip)))) | (apply Ab.K.awp; first | (apply Xg.s; constructor)) | (apply Ab.K.at_; exact at_) | (apply Ab.K.acall; first | assumption | fail) | (apply Ab.Rg.mk; omega) | (apply Ab.Lt.mk; first | decide | (simp; done) | (simp; omega) | fail) | (apply Ab.Get.mk; first | rfl | fail) | (apply Ab.Nm.mk; first | exact nrm_) | (apply Xg.s; constructor) | (apply Ab.asm; assumption) | rfl | infer_instance | decide))
  refine AWp.loop (fun kk tm s1 => ∃ (i : Nat), Ev tm (.tmp 1) (.pointer (some ⟨N, 0, none⟩)) ∧ Ev tm (.tmp 3) (.int .i64 i) ∧ s1 = s.set N bx ∧ ¬ big (q.take i) ∧ i ≤ q.length ∧ kk = q.length - i) q.length ?_ ?_
  · exact ⟨0, by exact ev_, by exact ev_, by rw [hbx]; rfl, (fun ⟨x, h, _⟩ => by cases h), by omega, rfl⟩
  rintro kk tm s1 ⟨i, e1, e3, rfl, hnb, hi, hkk⟩
  by_cases hin : i < q.length
  · obtain ⟨x, hx⟩ : ∃ x, q[i]? = some x := ⟨_, List.getElem?_eq_getElem hin⟩
    have htk : q.take (i + 1) = q.take i ++ [x] := by rw [List.take_add_one, hx]; rfl
    obtain ⟨o, off, c, sp, rw', cs, u, e, _, ha, hg, hu⟩ := h.qelt hx
    obtain ⟨rfl, rfl⟩ : A = some ⟨o, off, sp⟩ ∧ cap = c := by injection e with e1 e2 e3; exact ⟨e1, e3⟩
    obtain ⟨B, c2, rfl, _⟩ := hu.isl
    have a1 : At (s.set N bx) o (.cells rw' 1 cs) := hS.at_ ha
    by_cases hb : (x.length : Int) > 16384
    · have hbig : big q := ⟨x, List.mem_of_getElem? hx, by omega⟩
      rw [decide_eq_false (fun e => e.2 hbig)]
      (repeat' (first | (apply Ab.K.ev; exact ev_) | (apply Ab.K.aops; first | (apply Xg.s; constructor) | apply Ab.S.guardG) | (apply Ab.K.aop; first | (apply Og.s; constructor)) | (apply Ab.K.gk; first | (apply Xg.s; constructor) | (apply Ab.gY; case hw => assumption) | (apply Ab.gNT; case hw => assumption) | (apply Ab.gNF; case hw => assumption) | ((first | apply Ab.gD | apply Ab.gDN); all_goals (intro _ _; (first | contradiction | (exfalso; omega) | skip)))) | (apply Ab.K.awp; first | (apply Xg.s; constructor)) | (apply Ab.K.at_; exact at_) | (apply Ab.K.acall; first | assumption | fail) | (apply Ab.Rg.mk; omega) | (apply Ab.Lt.mk; first | decide | (simp; done) | (simp; omega) | fail) | (apply Ab.Get.mk; first | rfl | (first | rfl | (rw [Int.toNat_natCast, Nat.mul_one]; exact hg) | (rw [Int.toNat_natCast]; exact hg))) | (apply Ab.Nm.mk; first | exact nrm_) | (apply Xg.s; constructor) | (apply Ab.asm; assumption) | rfl | infer_instance | decide))
      all_goals ((first | apply RetQ.ret | apply RetQ.normal); (case he => exact evr_); (case hg => rfl))
      · rfl
      · exact Keeps.fr F1 (plR.nm rfl)
    · (repeat' (first | (apply Ab.K.ev; exact ev_) | (apply Ab.K.aops; first | (apply Xg.s; constructor) | apply Ab.S.guardG) | (apply Ab.K.aop; first | (apply Og.s; constructor)) | (apply Ab.K.gk; first | (apply Xg.s; constructor) | (apply Ab.gY; case hw => assumption) | (apply Ab.gNT; case hw => assumption) | (apply Ab.gNF; case hw => assumption) | ((first | apply Ab.gD | apply Ab.gDN); all_goals (intro _ _; (first | contradiction | (exfalso; omega) | skip)))) | (apply Ab.K.awp; first | (apply Xg.s; constructor)) | (apply Ab.K.at_; exact at_) | (apply Ab.K.acall; first | assumption | fail) | (apply Ab.Rg.mk; omega) | (apply Ab.Lt.mk; first | decide | (simp; done) | (simp; omega) | fail) | (apply Ab.Get.mk; first | rfl | (first | rfl | (rw [Int.toNat_natCast, Nat.mul_one]; exact hg) | (rw [Int.toNat_natCast]; exact hg))) | (apply Ab.Nm.mk; first | exact nrm_) | (apply Xg.s; constructor) | (apply Ab.asm; assumption) | rfl | infer_instance | decide))
      exact X.roundN (q.length - (i + 1)) (by omega) ⟨i + 1, by exact ev_, by exact ev_, rfl, (by
        rw [htk]
        rintro ⟨y, hy, hyb⟩
        rcases List.mem_append.1 hy with hy | hy
        · exact hnb ⟨y, hy, hyb⟩
        · rw [List.mem_singleton.1 hy] at hyb; omega), by omega, by omega⟩
  · obtain rfl : i = q.length := by omega
    rw [List.take_length] at hnb
    by_cases hO : Sd.Ok ⟨base, sent, q, clock⟩
    case' pos => rw [decide_eq_true (show Sd.May ⟨base, sent, q, clock⟩ from ⟨hO, hnb⟩)]
    case' neg => rw [decide_eq_false (fun h : Sd.May ⟨base, sent, q, clock⟩ => hO h.1)]
    all_goals simp only [Sd.Ok] at hO
    all_goals clear hnb h
    all_goals (repeat' (first | (apply Ab.K.ev; exact ev_) | (apply Ab.K.aops; first | (apply Xg.s; constructor) | apply Ab.S.guardG) | (apply Ab.K.aop; first | (apply Og.s; constructor)) | (apply Ab.K.gk; first | (apply Xg.s; constructor) | (apply Ab.gY; case hw => assumption) | (apply Ab.gNT; case hw => assumption) | (apply Ab.gNF; case hw => assumption) | ((first | apply Ab.gD | apply Ab.gDN); all_goals (intro _ _; (first | contradiction | (exfalso; omega) | skip)))) | (apply Ab.K.awp; first | (apply Xg.s; constructor)) | (apply Ab.K.at_; exact at_) | (apply Ab.K.acall; first | assumption | fail) | (apply Ab.Rg.mk; omega) | (apply Ab.Lt.mk; first | decide | (simp; done) | (simp; omega) | fail) | (apply Ab.Get.mk; first | rfl | (first | rfl | (rw [Int.toNat_natCast, Nat.mul_one]; exact hg) | (rw [Int.toNat_natCast]; exact hg))) | (apply Ab.Nm.mk; first | exact nrm_) | (apply Xg.s; constructor) | (apply Ab.asm; assumption) | rfl | infer_instance | decide))
    all_goals ((first | apply RetQ.ret | apply RetQ.normal); (case he => exact evr_); (case hg => rfl))
    all_goals first | rfl | exact Keeps.fr F1 (plR.nm rfl) | (simp only [resV]; congr 1; first | (simp; done) | (simp; omega))
theorem mayS {s : AHeap} {c : List Value} {x : Sd} (h : RS s c x) (hq : x.q.length ≤ 1000000000) : ACall Try.prog 38 [.agg c.toArray] s (.bool (decide x.May)) s := by
  obtain ⟨v, rfl, hv⟩ := h
  exact mayS' hv hq
end Go.Proofs.Ytoiplbackllgfaa

/- lines: payloads with their numbers, by the program and by the document. -/
namespace Go.Proofs.Ytoiplbackllgfaa
set_option linter.unusedVariables false
set_option linter.unusedSimpArgs false
set_option linter.unusedSectionVars false
open Go.RowKit Ab HP
attribute [local irreducible] AOps AOpsD AOpsP QStep NX AOp AWp put nargs AHeap.set At Free ACall ACallE thenQ blockQ roundQ RetQ RetE Src Gr
structure Nb where
  seq : Int
  pay : List Int
def RN (b : AHeap) (c : List Value) (x : Nb) : Prop := ∃ v, c = [.int .i64 x.seq, v] ∧ Bt b v x.pay
theorem datN : Dat 2 RN := ⟨fun b b' c x hs ⟨v, e, h⟩ => ⟨v, e, h.bt hs⟩, fun b c x ⟨v, e, h⟩ y hy => by
  subst e
  simp only [List.mem_cons, List.not_mem_nil, or_false] at hy
  rcases hy with rfl | rfl
  · trivial
  · exact h.nm, by decide⟩
/-- All of a queue, numbered. -/
def nmb (base : Int) (q : List (List Int)) : List Nb := q.mapIdx fun k x => ⟨base + (k : Nat), x⟩
theorem nmb_get {base : Int} {q : List (List Int)} {i : Nat} {x : List Int} (h : q[i]? = some x) : (nmb base q)[i]? = some ⟨base + (i : Nat), x⟩ := by simp [nmb, h]
theorem nmb_length {base : Int} {q : List (List Int)} : (nmb base q).length = q.length := by simp [nmb]
theorem part_snoc {α : Type} {l : List α} {f i : Nat} {x : α} (hf : f ≤ i) (h : l[i]? = some x) : (l.drop f).take (i + 1 - f) = (l.drop f).take (i - f) ++ [x] := by
  rw [show i + 1 - f = (i - f) + 1 by omega, List.take_add_one, List.getElem?_drop, show f + (i - f) = i by omega, h]; rfl
set_option maxHeartbeats 4000000 in
theorem numbered76 {s b : AHeap} {base sent clock : Int} {v : Value} {q : List (List Int)} {f t : Nat} (hb : Sub b s) (h : Qt b v q) (hft : f ≤ t) (ht : t ≤ q.length) (hq : q.length ≤ 1000000) (hl : ∀ x ∈ q, x.length ≤ 1000000000) (hbase : 0 ≤ base ∧ base ≤ 2147483647) :
    ACallE Try.prog 76 [.agg #[.int .i64 base, .int .i64 sent, v, .int .i64 clock], .int .i64 f, .int .i64 t] s (Pu s b fun w b' => Sl b' 2 (RN b') w (((nmb base q).drop f).take (t - f))) := by
  refine ACallE.make Try.func76 rfl (by kernel_rfl) (by decide) rfl (fun N hN0 => ?_)
  have hT : Top N s := hN0
  obtain ⟨A, cap, rfl, hcap⟩ := h.isl
  have I0 := (Inv.refl hb).boxT (c := .cells true 1 [.int .i64 base, .int .i64 sent, .slice A q.length cap, .int .i64 clock]) hT (Nat.le_refl _)
  have P0 : Prv s (s.set N (.cells true 1 [.int .i64 base, .int .i64 sent, .slice A q.length cap, .int .i64 clock])) b N := Prv.mk' (Inv.refl hb) (hT.none (Nat.le_refl _))
  (repeat' (first | (apply Ab.K.ev; exact ev_) | (apply Ab.K.aops; first | (apply Xg.s; constructor) | apply Ab.S.guardG) | (apply Ab.K.aop; first | (first | (apply Ab.O.boxA (N + 0); (case hx => exact ev_); (case hid => exact frees_))) | (apply Og.s; constructor)) | (apply Ab.K.gk; first | (apply Xg.s; constructor) | (apply Ab.gY; case hw => assumption) | (apply Ab.gNT; case hw => assumption) | (apply Ab.gNF; case hw => assumption) | ((first | apply Ab.gD | apply Ab.gDN); all_goals (intro _ _; (first | contradiction | (exfalso; omega) | skip)))) | (apply Ab.K.aopsD; first | (apply Ab.D.q0t; (case hw => rfl); (case hot => rfl)) | (apply Ab.D.w1t; (case hw => rfl); (case hot => rfl)) | (apply Ab.D.q0; (case hw => rfl); intro _ _) | (apply Ab.D.w1n; (case hw => rfl); intro _ _) | (apply Ab.D.w2n; (case hw => rfl); intro _ _) | (apply Xg.s; constructor) | fail | apply Ab.D.guardG) | (apply Ab.K.aopsP; first | apply Ab.Pd.nil | (apply Ab.Pd.q; (case hi => rfl)) | (apply Ab.Pd.z; (case hi => rfl)) | (apply Ab.Pd.zU; (case hi => rfl); (case hd => rfl); (case hb => (exact ev_; done))) | (apply Ab.Pd.zG; (case hi => rfl); (case hd => rfl)) | (apply Ab.Pd.st; (case hi => rfl)) | (apply Ab.Pd.qU; (case hi => rfl); (case hd => rfl); (case hb => (exact ev_; done))) | (apply Ab.Pd.qG; (case hi => rfl); (case hd => rfl)) | (apply Ab.Pd.stU; (case hi => rfl); (case hd => rfl); (case hb => (exact ev_; done))) | (apply Ab.Pd.stG; (case hi => rfl); (case hd => rfl))) | (apply Ab.Pd.qs; intro _ _) | (apply Ab.Pd.nxE; (case hE => rfl)) | (apply Ab.Pd.nxR; (case hr => (repeat' (first | exact Ab.Sub.del _ _ | assumption | (apply Ab.Sub.setI; (case hn => simp)) | (apply Ab.Sub.setF; (case hn => exact free_)) | exact (Ab.Sub.del _ _).trans (by assumption))))) | exact ⟨rfl, rfl⟩ | (apply Ab.K.awp; first | (apply AWp.schedS (id := 5) [(0, 2), (1, 2), (2, 1), (3, 2), (4, 2), (5, 2), (6, 1), (7, 2), (8, 2), (9, 1), (10, 0), (11, 0), (12, 0), (13, 0), (14, 0)] [11, 12, 13, 14] [[], [], [1], [], [1, 2, 3], [], [5], [], [5, 6, 7], [5, 6, 7, 8], [5, 6, 7, 8, 9], [1, 2, 3, 4, 5, 6, 7, 8, 9, 10], [1, 2, 3, 4, 5, 6, 7, 8, 9, 10, 11], [0, 1, 2, 3, 4, 5, 6, 7, 8, 9, 10, 11, 12], [0, 1, 2, 3, 4, 5, 6, 7, 8, 9, 10, 11, 12, 13]] [] (by kernel_rfl) (by kernel_rfl) (by kernel_rfl) rfl) | (apply Xg.s; constructor)) | (apply Ab.K.at_; exact at_) | (apply Ab.K.acall; first | assumption | fail) | (apply Ab.Rg.mk; omega) | (apply Ab.Lt.mk; first | decide | (simp; done) | (simp; omega) | fail) | (apply Ab.Get.mk; first | rfl | fail) | (apply Ab.Nm.mk; first | exact nrm_) | (apply Xg.s; constructor) | (apply Ab.asm; assumption) | rfl | infer_instance | decide))
  refine AWp.loop (fun kk tm s1 => ∃ (i M : Nat) (w : Value) (on : Option Nat) (xs : List Value) (b1 : AHeap), Ev tm (.tmp 7) w ∧ Ev tm (.tmp 3) (.pointer (some ⟨N, 0, none⟩)) ∧ Ev tm (.tmp 2) (.int .i64 t) ∧ Ev tm (.tmp 8) (.int .i64 i) ∧ At s1 N (.cells true 1 [.int .i64 base, .int .i64 sent, .slice A q.length cap, .int .i64 clock]) ∧ Inv s b s1 b1 ∧ Prv s s1 b1 N ∧ Gr s1 2 (N + 1) w on (i - f) xs ∧ Cs 2 (RN b1) xs (((nmb base q).drop f).take (i - f)) ∧ (∀ o, on = some o → Prv s s1 b1 o) ∧ Top M s1 ∧ N + 1 ≤ M ∧ f ≤ i ∧ i ≤ t ∧ kk = t - i) (t - f) ?_ ?_
  · exact ⟨f, N + 1, _, _, [], b, by exact ev_, by exact ev_, by exact ev_, by exact ev_, At.hit, I0, P0, (by rw [Nat.sub_self]; exact Gr.nil), (by rw [Nat.sub_self]; exact Cs.nil), (fun o e => by cases e), hT.new, Nat.le_refl _, Nat.le_refl _, hft, rfl⟩
  clear I0 P0
  rintro kk tm s1 ⟨i, M, w, on, xs, b1, e7, e3, e2, e8, aN, I, PN, G, C, hP, T, hMM, hfi, hi, hkk⟩
  by_cases hin : i < t
  · obtain ⟨x, hx⟩ : ∃ x, q[i]? = some x := ⟨_, List.getElem?_eq_getElem (by omega)⟩
    have htk := part_snoc hfi (nmb_get (base := base) hx)
    obtain ⟨o, off, c, sp, rw', cs, u, e, _, ha, hg, hu⟩ := h.qelt hx
    obtain ⟨rfl, rfl⟩ : A = some ⟨o, off, sp⟩ ∧ cap = c := by injection e with e1 e2 e3; exact ⟨e1, e3⟩
    have a1 : At s1 o (.cells rw' 1 cs) := (I.old.trans I.sub).at_ ha
    have cc := cloneB I.sub (hu.bt I.old) (hl x (List.mem_of_getElem? hx))

    (repeat' (first | (apply Ab.K.ev; exact ev_) | (apply Ab.K.aops; first | (apply Xg.s; constructor) | apply Ab.S.guardG) | (apply Ab.K.aop; first | (apply Ab.O.callFE; (case ha => exact evs_); (case hc => exact cc)) | (apply Og.s; constructor)) | (apply Ab.K.gk; first | (apply Xg.s; constructor) | (apply Ab.gY; case hw => assumption) | (apply Ab.gNT; case hw => assumption) | (apply Ab.gNF; case hw => assumption) | ((first | apply Ab.gD | apply Ab.gDN); all_goals (intro _ _; (first | contradiction | (exfalso; omega) | skip)))) | (apply Ab.K.aopsD; first | (apply Ab.D.q0t; (case hw => rfl); (case hot => rfl)) | (apply Ab.D.w1t; (case hw => rfl); (case hot => rfl)) | (apply Ab.D.q0; (case hw => rfl); intro _ _) | (apply Ab.D.w1n; (case hw => rfl); intro _ _) | (apply Ab.D.w2n; (case hw => rfl); intro _ _) | (apply Xg.s; constructor) | fail | apply Ab.D.guardG) | (apply Ab.K.aopsP; first | apply Ab.Pd.nil | (apply Ab.Pd.q; (case hi => rfl)) | (apply Ab.Pd.z; (case hi => rfl)) | (apply Ab.Pd.zU; (case hi => rfl); (case hd => rfl); (case hb => (exact ev_; done))) | (apply Ab.Pd.zG; (case hi => rfl); (case hd => rfl)) | (apply Ab.Pd.st; (case hi => rfl)) | (apply Ab.Pd.qU; (case hi => rfl); (case hd => rfl); (case hb => (exact ev_; done))) | (apply Ab.Pd.qG; (case hi => rfl); (case hd => rfl)) | (apply Ab.Pd.stU; (case hi => rfl); (case hd => rfl); (case hb => (exact ev_; done))) | (apply Ab.Pd.stG; (case hi => rfl); (case hd => rfl))) | (apply Ab.Pd.qs; intro _ _) | (apply Ab.Pd.nxE; (case hE => rfl)) | (apply Ab.Pd.nxR; (case hr => (repeat' (first | exact Ab.Sub.del _ _ | assumption | (apply Ab.Sub.setI; (case hn => simp)) | (apply Ab.Sub.setF; (case hn => exact free_)) | exact (Ab.Sub.del _ _).trans (by assumption))))) | exact ⟨rfl, rfl⟩ | (apply Ab.K.awp; first | (apply AWp.schedS (id := 5) [(0, 2), (1, 2), (2, 1), (3, 2), (4, 2), (5, 2), (6, 1), (7, 2), (8, 2), (9, 1), (10, 0), (11, 0), (12, 0), (13, 0), (14, 0)] [11, 12, 13, 14] [[], [], [1], [], [1, 2, 3], [], [5], [], [5, 6, 7], [5, 6, 7, 8], [5, 6, 7, 8, 9], [1, 2, 3, 4, 5, 6, 7, 8, 9, 10], [1, 2, 3, 4, 5, 6, 7, 8, 9, 10, 11], [0, 1, 2, 3, 4, 5, 6, 7, 8, 9, 10, 11, 12], [0, 1, 2, 3, 4, 5, 6, 7, 8, 9, 10, 11, 12, 13]] [] (by kernel_rfl) (by kernel_rfl) (by kernel_rfl) rfl) | (apply Xg.s; constructor)) | (apply Ab.K.at_; exact at_) | (apply Ab.K.acall; first | assumption | fail) | (apply Ab.Rg.mk; omega) | (apply Ab.Lt.mk; first | decide | (simp; done) | (simp; omega) | fail) | (apply Ab.Get.mk; first | rfl | (first | rfl | (rw [Int.toNat_natCast, Nat.mul_one]; exact hg) | (rw [Int.toNat_natCast]; exact hg))) | (apply Ab.Nm.mk; first | exact nrm_) | (apply Xg.s; constructor) | (apply Ab.asm; assumption) | rfl | infer_instance | decide))
    rintro v2 s2 ⟨b2, I2, hv2⟩
    clear cc
    refine Pd.nxR ((Sub.del _ _).trans I2.kp) ?_
    obtain ⟨B, c2, rfl, _⟩ := hv2.isl
    obtain ⟨M2, hM2, T2⟩ := I2.fin M T
    have I3 := I.trans I2
    have aN2 := I2.kp.at_ aN
    have PN2 := PN.call I2
    have hlt := G.lt T
    have hge := G.from_
    (repeat' (first | (apply Ab.K.ev; exact ev_) | (apply Ab.K.aops; first | (apply Xg.s; constructor) | apply Ab.S.guardG) | (apply Ab.K.aop; first | (apply Ab.O.build1A M2; (case hx => exact ev_); (case hl => rfl); (case hz => exact ⟨rfl, rfl⟩); (case hes => decide); (case hid => exact T2.free (Nat.le_refl _))) | (apply Og.s; constructor)) | (apply Ab.K.gk; first | (apply Xg.s; constructor) | (apply Ab.gY; case hw => assumption) | (apply Ab.gNT; case hw => assumption) | (apply Ab.gNF; case hw => assumption) | ((first | apply Ab.gD | apply Ab.gDN); all_goals (intro _ _; (first | contradiction | (exfalso; omega) | skip)))) | (apply Ab.K.aopsD; first | (apply Ab.D.q0t; (case hw => rfl); (case hot => rfl)) | (apply Ab.D.w1t; (case hw => rfl); (case hot => rfl)) | (apply Ab.D.q0; (case hw => rfl); intro _ _) | (apply Ab.D.w1n; (case hw => rfl); intro _ _) | (apply Ab.D.w2n; (case hw => rfl); intro _ _) | (apply Xg.s; constructor) | fail | apply Ab.D.guardG) | (apply Ab.K.aopsP; first | apply Ab.Pd.nil | (apply Ab.Pd.q; (case hi => rfl)) | (apply Ab.Pd.z; (case hi => rfl)) | (apply Ab.Pd.zU; (case hi => rfl); (case hd => rfl); (case hb => (exact ev_; done))) | (apply Ab.Pd.zG; (case hi => rfl); (case hd => rfl)) | (apply Ab.Pd.st; (case hi => rfl)) | (apply Ab.Pd.qU; (case hi => rfl); (case hd => rfl); (case hb => (exact ev_; done))) | (apply Ab.Pd.qG; (case hi => rfl); (case hd => rfl)) | (apply Ab.Pd.stU; (case hi => rfl); (case hd => rfl); (case hb => (exact ev_; done))) | (apply Ab.Pd.stG; (case hi => rfl); (case hd => rfl))) | (apply Ab.Pd.qs; intro _ _) | (apply Ab.Pd.nxE; (case hE => rfl)) | (apply Ab.Pd.nxR; (case hr => (repeat' (first | exact Ab.Sub.del _ _ | assumption | (apply Ab.Sub.setI; (case hn => simp)) | (apply Ab.Sub.setF; (case hn => exact free_)) | exact (Ab.Sub.del _ _).trans (by assumption))))) | exact ⟨rfl, rfl⟩ | (apply Ab.K.awp; first | (apply AWp.schedS (id := 5) [(0, 2), (1, 2), (2, 1), (3, 2), (4, 2), (5, 2), (6, 1), (7, 2), (8, 2), (9, 1), (10, 0), (11, 0), (12, 0), (13, 0), (14, 0)] [11, 12, 13, 14] [[], [], [1], [], [1, 2, 3], [], [5], [], [5, 6, 7], [5, 6, 7, 8], [5, 6, 7, 8, 9], [1, 2, 3, 4, 5, 6, 7, 8, 9, 10], [1, 2, 3, 4, 5, 6, 7, 8, 9, 10, 11], [0, 1, 2, 3, 4, 5, 6, 7, 8, 9, 10, 11, 12], [0, 1, 2, 3, 4, 5, 6, 7, 8, 9, 10, 11, 12, 13]] [] (by kernel_rfl) (by kernel_rfl) (by kernel_rfl) rfl) | (apply Xg.s; constructor)) | (apply Ab.K.at_; exact at_) | (apply Ab.K.acall; first | assumption | fail) | (apply Ab.Rg.mk; omega) | (apply Ab.Lt.mk; first | decide | (simp; done) | (simp; omega) | fail) | (apply Ab.Get.mk; first | rfl | (first | rfl | (rw [Int.toNat_natCast, Nat.mul_one]; exact hg) | (rw [Int.toNat_natCast]; exact hg))) | (apply Ab.Nm.mk; first | exact nrm_) | (apply Xg.s; constructor) | (apply Ab.asm; assumption) | rfl | infer_instance | decide))
    have G4 := (G.kp I2.kp).set (id := M2) (b := .cells true 2 [.int .i64 (base + i), .slice B x.length c2]) (fun q e => by have := hlt q e; omega)
    clear G

    (apply Ab.O.appendL (M2 + 1); (case hx => exact ev_); (case hL => exact Ab.Gr.lat (by assumption)); (case hy => exact ev_); (case hs => exact srcAll At.hit rfl); (case hk => rfl); (case hm => decide); (case hl => first | rfl | simp); (case hz => decide); (case hb => omega); (case hfree => exact free_))
    intro s4 g
    have I4 := (I3.boxT (c := .cells true 2 [.int .i64 (base + i), .slice B x.length c2]) T2 (Nat.le_refl _)).grew g (fun q e => ⟨(hP q e).z, ((hP q e).call I2).b⟩)
    have P4 := Prv.new (I3.boxT (c := .cells true 2 [.int .i64 (base + i), .slice B x.length c2]) T2 (Nat.le_refl _)) g
    have PN4 := (PN2.set (N := M2) (c := .cells true 2 [.int .i64 (base + i), .slice B x.length c2])).grew g (fun q e => by have := hge q e; omega)
    have aN4 := Gr.off g (At.miss (by omega) aN2) (fun q e => by have := hge q e; omega) (by omega)
    have T4 := G4.topN g T2.new
    have C4 : Cs 2 (RN b2) (xs ++ [.int .i64 (base + i), .slice B x.length c2]) (((nmb base q).drop f).take (i + 1 - f)) := by rw [htk]; exact (C.mono fun c y => datN.mono _ _ c y I2.old).snoc rfl ⟨_, rfl, hv2⟩
    have G5 : Gr s4 2 (N + 1) _ _ (i + 1 - f) _ := Gr.app g (by rw [C4.len, List.length_take, List.length_drop, nmb_length]; omega) (by omega)
    rw [show i - f + 1 = i + 1 - f by omega]
    (repeat' (first | (apply Ab.K.ev; exact ev_) | (apply Ab.K.aops; first | (apply Xg.s; constructor) | apply Ab.S.guardG) | (apply Ab.K.aop; first | (apply Og.s; constructor)) | (apply Ab.K.gk; first | (apply Xg.s; constructor) | (apply Ab.gY; case hw => assumption) | (apply Ab.gNT; case hw => assumption) | (apply Ab.gNF; case hw => assumption) | ((first | apply Ab.gD | apply Ab.gDN); all_goals (intro _ _; (first | contradiction | (exfalso; omega) | skip)))) | (apply Ab.K.aopsD; first | (apply Ab.D.q0t; (case hw => rfl); (case hot => rfl)) | (apply Ab.D.w1t; (case hw => rfl); (case hot => rfl)) | (apply Ab.D.q0; (case hw => rfl); intro _ _) | (apply Ab.D.w1n; (case hw => rfl); intro _ _) | (apply Ab.D.w2n; (case hw => rfl); intro _ _) | (apply Xg.s; constructor) | fail | apply Ab.D.guardG) | (apply Ab.K.aopsP; first | apply Ab.Pd.nil | (apply Ab.Pd.q; (case hi => rfl)) | (apply Ab.Pd.z; (case hi => rfl)) | (apply Ab.Pd.zU; (case hi => rfl); (case hd => rfl); (case hb => (exact ev_; done))) | (apply Ab.Pd.zG; (case hi => rfl); (case hd => rfl)) | (apply Ab.Pd.st; (case hi => rfl)) | (apply Ab.Pd.qU; (case hi => rfl); (case hd => rfl); (case hb => (exact ev_; done))) | (apply Ab.Pd.qG; (case hi => rfl); (case hd => rfl)) | (apply Ab.Pd.stU; (case hi => rfl); (case hd => rfl); (case hb => (exact ev_; done))) | (apply Ab.Pd.stG; (case hi => rfl); (case hd => rfl))) | (apply Ab.Pd.qs; intro _ _) | (apply Ab.Pd.nxE; (case hE => rfl)) | (apply Ab.Pd.nxR; (case hr => (repeat' (first | exact Ab.Sub.del _ _ | assumption | (apply Ab.Sub.setI; (case hn => simp)) | (apply Ab.Sub.setF; (case hn => exact free_)) | exact (Ab.Sub.del _ _).trans (by assumption))))) | exact ⟨rfl, rfl⟩ | (apply Ab.K.awp; first | (apply AWp.schedS (id := 5) [(0, 2), (1, 2), (2, 1), (3, 2), (4, 2), (5, 2), (6, 1), (7, 2), (8, 2), (9, 1), (10, 0), (11, 0), (12, 0), (13, 0), (14, 0)] [11, 12, 13, 14] [[], [], [1], [], [1, 2, 3], [], [5], [], [5, 6, 7], [5, 6, 7, 8], [5, 6, 7, 8, 9], [1, 2, 3, 4, 5, 6, 7, 8, 9, 10], [1, 2, 3, 4, 5, 6, 7, 8, 9, 10, 11], [0, 1, 2, 3, 4, 5, 6, 7, 8, 9, 10, 11, 12], [0, 1, 2, 3, 4, 5, 6, 7, 8, 9, 10, 11, 12, 13]] [] (by kernel_rfl) (by kernel_rfl) (by kernel_rfl) rfl) | (apply Xg.s; constructor)) | (apply Ab.K.at_; exact at_) | (apply Ab.K.acall; first | assumption | fail) | (apply Ab.Rg.mk; omega) | (apply Ab.Lt.mk; first | decide | (simp; done) | (simp; omega) | fail) | (apply Ab.Get.mk; first | rfl | (first | rfl | (rw [Int.toNat_natCast, Nat.mul_one]; exact hg) | (rw [Int.toNat_natCast]; exact hg))) | (apply Ab.Nm.mk; first | exact nrm_) | (apply Xg.s; constructor) | (apply Ab.asm; assumption) | rfl | infer_instance | decide))
    exact X.roundN (t - (i + 1)) (by omega) ⟨i + 1, M2 + 2, _, _, _, b2, by exact ev_, by exact ev_, by exact ev_, by exact ev_, aN4, I4, PN4, G5, C4, (fun o e => by obtain rfl := Option.some.inj e; exact P4), T4, by omega, by omega, by omega, rfl⟩
  · have hie : i = t := by omega
    subst hie
    obtain ⟨b2, I2, _, hw, _⟩ := G.tell datN I hP C
    obtain ⟨B, c2, rfl, _⟩ := hw.isl
    (repeat' (first | (apply Ab.K.ev; exact ev_) | (apply Ab.K.aops; first | (apply Xg.s; constructor) | apply Ab.S.guardG) | (apply Ab.K.aop; first | (apply Og.s; constructor)) | (apply Ab.K.gk; first | (apply Xg.s; constructor) | (apply Ab.gY; case hw => assumption) | (apply Ab.gNT; case hw => assumption) | (apply Ab.gNF; case hw => assumption) | ((first | apply Ab.gD | apply Ab.gDN); all_goals (intro _ _; (first | contradiction | (exfalso; omega) | skip)))) | (apply Ab.K.aopsD; first | (apply Ab.D.q0t; (case hw => rfl); (case hot => rfl)) | (apply Ab.D.w1t; (case hw => rfl); (case hot => rfl)) | (apply Ab.D.q0; (case hw => rfl); intro _ _) | (apply Ab.D.w1n; (case hw => rfl); intro _ _) | (apply Ab.D.w2n; (case hw => rfl); intro _ _) | (apply Xg.s; constructor) | fail | apply Ab.D.guardG) | (apply Ab.K.aopsP; first | apply Ab.Pd.nil | (apply Ab.Pd.q; (case hi => rfl)) | (apply Ab.Pd.z; (case hi => rfl)) | (apply Ab.Pd.zU; (case hi => rfl); (case hd => rfl); (case hb => (exact ev_; done))) | (apply Ab.Pd.zG; (case hi => rfl); (case hd => rfl)) | (apply Ab.Pd.st; (case hi => rfl)) | (apply Ab.Pd.qU; (case hi => rfl); (case hd => rfl); (case hb => (exact ev_; done))) | (apply Ab.Pd.qG; (case hi => rfl); (case hd => rfl)) | (apply Ab.Pd.stU; (case hi => rfl); (case hd => rfl); (case hb => (exact ev_; done))) | (apply Ab.Pd.stG; (case hi => rfl); (case hd => rfl))) | (apply Ab.Pd.qs; intro _ _) | (apply Ab.Pd.nxE; (case hE => rfl)) | (apply Ab.Pd.nxR; (case hr => (repeat' (first | exact Ab.Sub.del _ _ | assumption | (apply Ab.Sub.setI; (case hn => simp)) | (apply Ab.Sub.setF; (case hn => exact free_)) | exact (Ab.Sub.del _ _).trans (by assumption))))) | exact ⟨rfl, rfl⟩ | (apply Ab.K.awp; first | (apply AWp.schedS (id := 5) [(0, 2), (1, 2), (2, 1), (3, 2), (4, 2), (5, 2), (6, 1), (7, 2), (8, 2), (9, 1), (10, 0), (11, 0), (12, 0), (13, 0), (14, 0)] [11, 12, 13, 14] [[], [], [1], [], [1, 2, 3], [], [5], [], [5, 6, 7], [5, 6, 7, 8], [5, 6, 7, 8, 9], [1, 2, 3, 4, 5, 6, 7, 8, 9, 10], [1, 2, 3, 4, 5, 6, 7, 8, 9, 10, 11], [0, 1, 2, 3, 4, 5, 6, 7, 8, 9, 10, 11, 12], [0, 1, 2, 3, 4, 5, 6, 7, 8, 9, 10, 11, 12, 13]] [] (by kernel_rfl) (by kernel_rfl) (by kernel_rfl) rfl) | (apply Xg.s; constructor)) | (apply Ab.K.at_; exact at_) | (apply Ab.K.acall; first | assumption | fail) | (apply Ab.Rg.mk; omega) | (apply Ab.Lt.mk; first | decide | (simp; done) | (simp; omega) | fail) | (apply Ab.Get.mk; first | rfl | (first | rfl | (rw [Int.toNat_natCast, Nat.mul_one]; exact hg) | (rw [Int.toNat_natCast]; exact hg))) | (apply Ab.Nm.mk; first | exact nrm_) | (apply Xg.s; constructor) | (apply Ab.asm; assumption) | rfl | infer_instance | decide))
    all_goals apply RetE.puR I2
    case he => exact evr_
    case hg => rfl
    · exact hw
    · exact hw.nm
set_option maxHeartbeats 4000000 in
theorem list77 {s b : AHeap} {base sent clock : Int} {v : Value} {q : List (List Int)} {f t : Nat} (hb : Sub b s) (h : Qt b v q) (hft : f ≤ t) (ht : t ≤ q.length) (hq : q.length ≤ 1000000) (hbase : 0 ≤ base ∧ base ≤ 2147483647) :
    ACallE Try.prog 77 [.agg #[.int .i64 base, .int .i64 sent, v, .int .i64 clock], .int .i64 f, .int .i64 t] s (Pu s b fun w b' => Sl b' 2 (RN b') w (((nmb base q).drop f).take (t - f))) := by
  refine ACallE.make Try.func77 rfl (by kernel_rfl) (by decide) rfl (fun N hN0 => ?_)
  have hT : Top N s := hN0
  obtain ⟨A, cap, rfl, hcap⟩ := h.isl
  have I0 := (Inv.refl hb).boxT (c := .cells true 1 [.int .i64 base, .int .i64 sent, .slice A q.length cap, .int .i64 clock]) hT (Nat.le_refl _)
  have P0 : Prv s (s.set N (.cells true 1 [.int .i64 base, .int .i64 sent, .slice A q.length cap, .int .i64 clock])) b N := Prv.mk' (Inv.refl hb) (hT.none (Nat.le_refl _))
  (repeat' (first | (apply Ab.K.ev; exact ev_) | (apply Ab.K.aops; first | (apply Xg.s; constructor) | apply Ab.S.guardG) | (apply Ab.K.aop; first | (first | (apply Ab.O.boxA (N + 0); (case hx => exact ev_); (case hid => exact frees_)) | (apply Ab.O.build0 (N + 1) (te := ⟨.struct [(0, 3), (1, 31)], 2, 32, .agg #[.int .i64 0, .slice none 0 0]⟩); (case hz => exact ⟨rfl, rfl⟩); (case hid => exact frees_))) | (apply Og.s; constructor)) | (apply Ab.K.gk; first | (apply Xg.s; constructor) | (apply Ab.gY; case hw => assumption) | (apply Ab.gNT; case hw => assumption) | (apply Ab.gNF; case hw => assumption) | ((first | apply Ab.gD | apply Ab.gDN); all_goals (intro _ _; (first | contradiction | (exfalso; omega) | skip)))) | (apply Ab.K.aopsD; first | (apply Ab.D.q0t; (case hw => rfl); (case hot => rfl)) | (apply Ab.D.w1t; (case hw => rfl); (case hot => rfl)) | (apply Ab.D.q0; (case hw => rfl); intro _ _) | (apply Ab.D.w1n; (case hw => rfl); intro _ _) | (apply Ab.D.w2n; (case hw => rfl); intro _ _) | (apply Xg.s; constructor) | fail | apply Ab.D.guardG) | (apply Ab.K.aopsP; first | apply Ab.Pd.nil | (apply Ab.Pd.q; (case hi => rfl)) | (apply Ab.Pd.z; (case hi => rfl)) | (apply Ab.Pd.zU; (case hi => rfl); (case hd => rfl); (case hb => (exact ev_; done))) | (apply Ab.Pd.zG; (case hi => rfl); (case hd => rfl)) | (apply Ab.Pd.st; (case hi => rfl)) | (apply Ab.Pd.qU; (case hi => rfl); (case hd => rfl); (case hb => (exact ev_; done))) | (apply Ab.Pd.qG; (case hi => rfl); (case hd => rfl)) | (apply Ab.Pd.stU; (case hi => rfl); (case hd => rfl); (case hb => (exact ev_; done))) | (apply Ab.Pd.stG; (case hi => rfl); (case hd => rfl))) | (apply Ab.Pd.qs; intro _ _) | (apply Ab.Pd.nxE; (case hE => rfl)) | (apply Ab.Pd.nxR; (case hr => (repeat' (first | exact Ab.Sub.del _ _ | assumption | (apply Ab.Sub.setI; (case hn => simp)) | (apply Ab.Sub.setF; (case hn => exact free_)) | exact (Ab.Sub.del _ _).trans (by assumption))))) | exact ⟨rfl, rfl⟩ | (apply Ab.K.awp; first | (apply AWp.schedS (id := 5) [(0, 2), (1, 2), (2, 1), (3, 2), (4, 2), (5, 2), (6, 1), (7, 2), (8, 2), (9, 1), (10, 0), (11, 0), (12, 0), (13, 0), (14, 0)] [11, 12, 13, 14] [[], [], [1], [], [1, 2, 3], [], [5], [], [5, 6, 7], [5, 6, 7, 8], [5, 6, 7, 8, 9], [1, 2, 3, 4, 5, 6, 7, 8, 9, 10], [1, 2, 3, 4, 5, 6, 7, 8, 9, 10, 11], [0, 1, 2, 3, 4, 5, 6, 7, 8, 9, 10, 11, 12], [0, 1, 2, 3, 4, 5, 6, 7, 8, 9, 10, 11, 12, 13]] [] (by kernel_rfl) (by kernel_rfl) (by kernel_rfl) rfl) | (apply AWp.schedS (id := 5) [(0, 2), (1, 2), (2, 1), (3, 2), (4, 2), (5, 2), (6, 1), (7, 2), (8, 2), (9, 1), (10, 0), (11, 0), (12, 0), (13, 0)] [10, 11, 12, 13] [[], [], [1], [], [1, 2, 3], [], [5], [], [5, 6, 7], [5, 6, 7, 8], [1, 2, 3, 4, 5, 6, 7, 8, 9], [1, 2, 3, 4, 5, 6, 7, 8, 9, 10], [0, 1, 2, 3, 4, 5, 6, 7, 8, 9, 10, 11], [0, 1, 2, 3, 4, 5, 6, 7, 8, 9, 10, 11, 12]] [] (by kernel_rfl) (by kernel_rfl) (by kernel_rfl) rfl) | (apply Xg.s; constructor)) | (apply Ab.K.at_; exact at_) | (apply Ab.K.acall; first | assumption | fail) | (apply Ab.Rg.mk; omega) | (apply Ab.Lt.mk; first | decide | (simp; done) | (simp; omega) | fail) | (apply Ab.Get.mk; first | rfl | (first | rfl | (rw [Int.toNat_natCast, Nat.mul_one]; exact hg) | (rw [Int.toNat_natCast]; exact hg))) | (apply Ab.Nm.mk; first | exact nrm_) | (apply Xg.s; constructor) | (apply Ab.asm; assumption) | rfl | infer_instance | decide))
  refine AWp.loop (fun kk tm s1 => ∃ (i M : Nat) (w : Value) (on : Option Nat) (xs : List Value) (b1 : AHeap), Ev tm (.tmp 7) w ∧ Ev tm (.tmp 3) (.pointer (some ⟨N, 0, none⟩)) ∧ Ev tm (.tmp 2) (.int .i64 t) ∧ Ev tm (.tmp 8) (.int .i64 i) ∧ At s1 N (.cells true 1 [.int .i64 base, .int .i64 sent, .slice A q.length cap, .int .i64 clock]) ∧ Inv s b s1 b1 ∧ Prv s s1 b1 N ∧ Gr s1 2 (N + 1) w on (i - f) xs ∧ Cs 2 (RN b1) xs (((nmb base q).drop f).take (i - f)) ∧ (∀ o, on = some o → Prv s s1 b1 o) ∧ Top M s1 ∧ N + 1 ≤ M ∧ f ≤ i ∧ i ≤ t ∧ kk = t - i) (t - f) ?_ ?_
  · exact ⟨f, N + 2, _, some (N + 1), [], b, by exact ev_, by exact ev_, by exact ev_, by exact ev_, by exact at_, I0.boxN (hT.new.none (Nat.le_refl _)), P0.set, (by rw [Nat.sub_self]; exact Gr.new At.hit rfl (Nat.le_refl _)), (by rw [Nat.sub_self]; exact Cs.nil), (fun o e => by obtain rfl := Option.some.inj e; exact Prv.mk' I0 (hT.new.none (Nat.le_refl _))), hT.new.new, by omega, Nat.le_refl _, hft, rfl⟩
  clear I0 P0
  rintro kk tm s1 ⟨i, M, w, on, xs, b1, e7, e3, e2, e8, aN, I, PN, G, C, hP, T, hMM, hfi, hi, hkk⟩
  by_cases hin : i < t
  · obtain ⟨x, hx⟩ : ∃ x, q[i]? = some x := ⟨_, List.getElem?_eq_getElem (by omega)⟩
    have htk := part_snoc hfi (nmb_get (base := base) hx)
    obtain ⟨o, off, c, sp, rw', cs, u, e, _, ha, hg, hu⟩ := h.qelt hx
    obtain ⟨rfl, rfl⟩ : A = some ⟨o, off, sp⟩ ∧ cap = c := by injection e with e1 e2 e3; exact ⟨e1, e3⟩
    have a1 : At s1 o (.cells rw' 1 cs) := (I.old.trans I.sub).at_ ha
    obtain ⟨B, c2, rfl, _⟩ := hu.isl
    have hlt := G.lt T
    have hge := G.from_

    (repeat' (first | (apply Ab.K.ev; exact ev_) | (apply Ab.K.aops; first | (apply Xg.s; constructor) | apply Ab.S.guardG) | (apply Ab.K.aop; first | (apply Ab.O.build1A M; (case hx => exact ev_); (case hl => rfl); (case hz => exact ⟨rfl, rfl⟩); (case hes => decide); (case hid => exact T.free (Nat.le_refl _))) | (apply Og.s; constructor)) | (apply Ab.K.gk; first | (apply Xg.s; constructor) | (apply Ab.gY; case hw => assumption) | (apply Ab.gNT; case hw => assumption) | (apply Ab.gNF; case hw => assumption) | ((first | apply Ab.gD | apply Ab.gDN); all_goals (intro _ _; (first | contradiction | (exfalso; omega) | skip)))) | (apply Ab.K.aopsD; first | (apply Ab.D.q0t; (case hw => rfl); (case hot => rfl)) | (apply Ab.D.w1t; (case hw => rfl); (case hot => rfl)) | (apply Ab.D.q0; (case hw => rfl); intro _ _) | (apply Ab.D.w1n; (case hw => rfl); intro _ _) | (apply Ab.D.w2n; (case hw => rfl); intro _ _) | (apply Xg.s; constructor) | fail | apply Ab.D.guardG) | (apply Ab.K.aopsP; first | apply Ab.Pd.nil | (apply Ab.Pd.q; (case hi => rfl)) | (apply Ab.Pd.z; (case hi => rfl)) | (apply Ab.Pd.zU; (case hi => rfl); (case hd => rfl); (case hb => (exact ev_; done))) | (apply Ab.Pd.zG; (case hi => rfl); (case hd => rfl)) | (apply Ab.Pd.st; (case hi => rfl)) | (apply Ab.Pd.qU; (case hi => rfl); (case hd => rfl); (case hb => (exact ev_; done))) | (apply Ab.Pd.qG; (case hi => rfl); (case hd => rfl)) | (apply Ab.Pd.stU; (case hi => rfl); (case hd => rfl); (case hb => (exact ev_; done))) | (apply Ab.Pd.stG; (case hi => rfl); (case hd => rfl))) | (apply Ab.Pd.qs; intro _ _) | (apply Ab.Pd.nxE; (case hE => rfl)) | (apply Ab.Pd.nxR; (case hr => (repeat' (first | exact Ab.Sub.del _ _ | assumption | (apply Ab.Sub.setI; (case hn => simp)) | (apply Ab.Sub.setF; (case hn => exact free_)) | exact (Ab.Sub.del _ _).trans (by assumption))))) | exact ⟨rfl, rfl⟩ | (apply Ab.K.awp; first | (apply AWp.schedS (id := 5) [(0, 2), (1, 2), (2, 1), (3, 2), (4, 2), (5, 2), (6, 1), (7, 2), (8, 2), (9, 1), (10, 0), (11, 0), (12, 0), (13, 0), (14, 0)] [11, 12, 13, 14] [[], [], [1], [], [1, 2, 3], [], [5], [], [5, 6, 7], [5, 6, 7, 8], [5, 6, 7, 8, 9], [1, 2, 3, 4, 5, 6, 7, 8, 9, 10], [1, 2, 3, 4, 5, 6, 7, 8, 9, 10, 11], [0, 1, 2, 3, 4, 5, 6, 7, 8, 9, 10, 11, 12], [0, 1, 2, 3, 4, 5, 6, 7, 8, 9, 10, 11, 12, 13]] [] (by kernel_rfl) (by kernel_rfl) (by kernel_rfl) rfl) | (apply AWp.schedS (id := 5) [(0, 2), (1, 2), (2, 1), (3, 2), (4, 2), (5, 2), (6, 1), (7, 2), (8, 2), (9, 1), (10, 0), (11, 0), (12, 0), (13, 0)] [10, 11, 12, 13] [[], [], [1], [], [1, 2, 3], [], [5], [], [5, 6, 7], [5, 6, 7, 8], [1, 2, 3, 4, 5, 6, 7, 8, 9], [1, 2, 3, 4, 5, 6, 7, 8, 9, 10], [0, 1, 2, 3, 4, 5, 6, 7, 8, 9, 10, 11], [0, 1, 2, 3, 4, 5, 6, 7, 8, 9, 10, 11, 12]] [] (by kernel_rfl) (by kernel_rfl) (by kernel_rfl) rfl) | (apply Xg.s; constructor)) | (apply Ab.K.at_; exact at_) | (apply Ab.K.acall; first | assumption | fail) | (apply Ab.Rg.mk; omega) | (apply Ab.Lt.mk; first | decide | (simp; done) | (simp; omega) | fail) | (apply Ab.Get.mk; first | rfl | (first | rfl | (rw [Int.toNat_natCast, Nat.mul_one]; exact hg) | (rw [Int.toNat_natCast]; exact hg))) | (apply Ab.Nm.mk; first | exact nrm_) | (apply Xg.s; constructor) | (apply Ab.asm; assumption) | rfl | infer_instance | decide))
    have G4 := G.set (id := M) (b := .cells true 2 [.int .i64 (base + i), .slice B x.length c2]) (fun q e => by have := hlt q e; omega)
    clear G

    (apply Ab.O.appendL (M + 1); (case hx => exact ev_); (case hL => exact Ab.Gr.lat (by assumption)); (case hy => exact ev_); (case hs => exact srcAll At.hit rfl); (case hk => rfl); (case hm => decide); (case hl => first | rfl | simp); (case hz => decide); (case hb => omega); (case hfree => exact free_))
    intro s4 g
    have I4 := (I.boxT (c := .cells true 2 [.int .i64 (base + i), .slice B x.length c2]) T (Nat.le_refl _)).grew g (fun q e => ⟨(hP q e).z, (hP q e).b⟩)
    have P4 := Prv.new (I.boxT (c := .cells true 2 [.int .i64 (base + i), .slice B x.length c2]) T (Nat.le_refl _)) g
    have PN4 := (PN.set (N := M) (c := .cells true 2 [.int .i64 (base + i), .slice B x.length c2])).grew g (fun q e => by have := hge q e; omega)
    have aN4 := Gr.off g (At.miss (by omega) aN) (fun q e => by have := hge q e; omega) (by omega)
    have T4 := G4.topN g T.new
    have C4 : Cs 2 (RN b1) (xs ++ [.int .i64 (base + i), .slice B x.length c2]) (((nmb base q).drop f).take (i + 1 - f)) := by rw [htk]; exact C.snoc rfl ⟨_, rfl, hu.bt I.old⟩
    have G5 : Gr s4 2 (N + 1) _ _ (i + 1 - f) _ := Gr.app g (by rw [C4.len, List.length_take, List.length_drop, nmb_length]; omega) (by omega)
    rw [show i - f + 1 = i + 1 - f by omega]
    (repeat' (first | (apply Ab.K.ev; exact ev_) | (apply Ab.K.aops; first | (apply Xg.s; constructor) | apply Ab.S.guardG) | (apply Ab.K.aop; first | (apply Og.s; constructor)) | (apply Ab.K.gk; first | (apply Xg.s; constructor) | (apply Ab.gY; case hw => assumption) | (apply Ab.gNT; case hw => assumption) | (apply Ab.gNF; case hw => assumption) | ((first | apply Ab.gD | apply Ab.gDN); all_goals (intro _ _; (first | contradiction | (exfalso; omega) | skip)))) | (apply Ab.K.aopsD; first | (apply Ab.D.q0t; (case hw => rfl); (case hot => rfl)) | (apply Ab.D.w1t; (case hw => rfl); (case hot => rfl)) | (apply Ab.D.q0; (case hw => rfl); intro _ _) | (apply Ab.D.w1n; (case hw => rfl); intro _ _) | (apply Ab.D.w2n; (case hw => rfl); intro _ _) | (apply Xg.s; constructor) | fail | apply Ab.D.guardG) | (apply Ab.K.aopsP; first | apply Ab.Pd.nil | (apply Ab.Pd.q; (case hi => rfl)) | (apply Ab.Pd.z; (case hi => rfl)) | (apply Ab.Pd.zU; (case hi => rfl); (case hd => rfl); (case hb => (exact ev_; done))) | (apply Ab.Pd.zG; (case hi => rfl); (case hd => rfl)) | (apply Ab.Pd.st; (case hi => rfl)) | (apply Ab.Pd.qU; (case hi => rfl); (case hd => rfl); (case hb => (exact ev_; done))) | (apply Ab.Pd.qG; (case hi => rfl); (case hd => rfl)) | (apply Ab.Pd.stU; (case hi => rfl); (case hd => rfl); (case hb => (exact ev_; done))) | (apply Ab.Pd.stG; (case hi => rfl); (case hd => rfl))) | (apply Ab.Pd.qs; intro _ _) | (apply Ab.Pd.nxE; (case hE => rfl)) | (apply Ab.Pd.nxR; (case hr => (repeat' (first | exact Ab.Sub.del _ _ | assumption | (apply Ab.Sub.setI; (case hn => simp)) | (apply Ab.Sub.setF; (case hn => exact free_)) | exact (Ab.Sub.del _ _).trans (by assumption))))) | exact ⟨rfl, rfl⟩ | (apply Ab.K.awp; first | (apply AWp.schedS (id := 5) [(0, 2), (1, 2), (2, 1), (3, 2), (4, 2), (5, 2), (6, 1), (7, 2), (8, 2), (9, 1), (10, 0), (11, 0), (12, 0), (13, 0), (14, 0)] [11, 12, 13, 14] [[], [], [1], [], [1, 2, 3], [], [5], [], [5, 6, 7], [5, 6, 7, 8], [5, 6, 7, 8, 9], [1, 2, 3, 4, 5, 6, 7, 8, 9, 10], [1, 2, 3, 4, 5, 6, 7, 8, 9, 10, 11], [0, 1, 2, 3, 4, 5, 6, 7, 8, 9, 10, 11, 12], [0, 1, 2, 3, 4, 5, 6, 7, 8, 9, 10, 11, 12, 13]] [] (by kernel_rfl) (by kernel_rfl) (by kernel_rfl) rfl) | (apply AWp.schedS (id := 5) [(0, 2), (1, 2), (2, 1), (3, 2), (4, 2), (5, 2), (6, 1), (7, 2), (8, 2), (9, 1), (10, 0), (11, 0), (12, 0), (13, 0)] [10, 11, 12, 13] [[], [], [1], [], [1, 2, 3], [], [5], [], [5, 6, 7], [5, 6, 7, 8], [1, 2, 3, 4, 5, 6, 7, 8, 9], [1, 2, 3, 4, 5, 6, 7, 8, 9, 10], [0, 1, 2, 3, 4, 5, 6, 7, 8, 9, 10, 11], [0, 1, 2, 3, 4, 5, 6, 7, 8, 9, 10, 11, 12]] [] (by kernel_rfl) (by kernel_rfl) (by kernel_rfl) rfl) | (apply Xg.s; constructor)) | (apply Ab.K.at_; exact at_) | (apply Ab.K.acall; first | assumption | fail) | (apply Ab.Rg.mk; omega) | (apply Ab.Lt.mk; first | decide | (simp; done) | (simp; omega) | fail) | (apply Ab.Get.mk; first | rfl | (first | rfl | (rw [Int.toNat_natCast, Nat.mul_one]; exact hg) | (rw [Int.toNat_natCast]; exact hg))) | (apply Ab.Nm.mk; first | exact nrm_) | (apply Xg.s; constructor) | (apply Ab.asm; assumption) | rfl | infer_instance | decide))
    exact X.roundN (t - (i + 1)) (by omega) ⟨i + 1, M + 2, _, _, _, b1, by exact ev_, by exact ev_, by exact ev_, by exact ev_, aN4, I4, PN4, G5, C4, (fun o e => by obtain rfl := Option.some.inj e; exact P4), T4, by omega, by omega, by omega, rfl⟩
  · have hie : i = t := by omega
    subst hie
    obtain ⟨b2, I2, _, hw, _⟩ := G.tell datN I hP C
    obtain ⟨B, c2, rfl, _⟩ := hw.isl
    (repeat' (first | (apply Ab.K.ev; exact ev_) | (apply Ab.K.aops; first | (apply Xg.s; constructor) | apply Ab.S.guardG) | (apply Ab.K.aop; first | (apply Og.s; constructor)) | (apply Ab.K.gk; first | (apply Xg.s; constructor) | (apply Ab.gY; case hw => assumption) | (apply Ab.gNT; case hw => assumption) | (apply Ab.gNF; case hw => assumption) | ((first | apply Ab.gD | apply Ab.gDN); all_goals (intro _ _; (first | contradiction | (exfalso; omega) | skip)))) | (apply Ab.K.aopsD; first | (apply Ab.D.q0t; (case hw => rfl); (case hot => rfl)) | (apply Ab.D.w1t; (case hw => rfl); (case hot => rfl)) | (apply Ab.D.q0; (case hw => rfl); intro _ _) | (apply Ab.D.w1n; (case hw => rfl); intro _ _) | (apply Ab.D.w2n; (case hw => rfl); intro _ _) | (apply Xg.s; constructor) | fail | apply Ab.D.guardG) | (apply Ab.K.aopsP; first | apply Ab.Pd.nil | (apply Ab.Pd.q; (case hi => rfl)) | (apply Ab.Pd.z; (case hi => rfl)) | (apply Ab.Pd.zU; (case hi => rfl); (case hd => rfl); (case hb => (exact ev_; done))) | (apply Ab.Pd.zG; (case hi => rfl); (case hd => rfl)) | (apply Ab.Pd.st; (case hi => rfl)) | (apply Ab.Pd.qU; (case hi => rfl); (case hd => rfl); (case hb => (exact ev_; done))) | (apply Ab.Pd.qG; (case hi => rfl); (case hd => rfl)) | (apply Ab.Pd.stU; (case hi => rfl); (case hd => rfl); (case hb => (exact ev_; done))) | (apply Ab.Pd.stG; (case hi => rfl); (case hd => rfl))) | (apply Ab.Pd.qs; intro _ _) | (apply Ab.Pd.nxE; (case hE => rfl)) | (apply Ab.Pd.nxR; (case hr => (repeat' (first | exact Ab.Sub.del _ _ | assumption | (apply Ab.Sub.setI; (case hn => simp)) | (apply Ab.Sub.setF; (case hn => exact free_)) | exact (Ab.Sub.del _ _).trans (by assumption))))) | exact ⟨rfl, rfl⟩ | (apply Ab.K.awp; first | (apply AWp.schedS (id := 5) [(0, 2), (1, 2), (2, 1), (3, 2), (4, 2), (5, 2), (6, 1), (7, 2), (8, 2), (9, 1), (10, 0), (11, 0), (12, 0), (13, 0), (14, 0)] [11, 12, 13, 14] [[], [], [1], [], [1, 2, 3], [], [5], [], [5, 6, 7], [5, 6, 7, 8], [5, 6, 7, 8, 9], [1, 2, 3, 4, 5, 6, 7, 8, 9, 10], [1, 2, 3, 4, 5, 6, 7, 8, 9, 10, 11], [0, 1, 2, 3, 4, 5, 6, 7, 8, 9, 10, 11, 12], [0, 1, 2, 3, 4, 5, 6, 7, 8, 9, 10, 11, 12, 13]] [] (by kernel_rfl) (by kernel_rfl) (by kernel_rfl) rfl) | (apply AWp.schedS (id := 5) [(0, 2), (1, 2), (2, 1), (3, 2), (4, 2), (5, 2), (6, 1), (7, 2), (8, 2), (9, 1), (10, 0), (11, 0), (12, 0), (13, 0)] [10, 11, 12, 13] [[], [], [1], [], [1, 2, 3], [], [5], [], [5, 6, 7], [5, 6, 7, 8], [1, 2, 3, 4, 5, 6, 7, 8, 9], [1, 2, 3, 4, 5, 6, 7, 8, 9, 10], [0, 1, 2, 3, 4, 5, 6, 7, 8, 9, 10, 11], [0, 1, 2, 3, 4, 5, 6, 7, 8, 9, 10, 11, 12]] [] (by kernel_rfl) (by kernel_rfl) (by kernel_rfl) rfl) | (apply Xg.s; constructor)) | (apply Ab.K.at_; exact at_) | (apply Ab.K.acall; first | assumption | fail) | (apply Ab.Rg.mk; omega) | (apply Ab.Lt.mk; first | decide | (simp; done) | (simp; omega) | fail) | (apply Ab.Get.mk; first | rfl | (first | rfl | (rw [Int.toNat_natCast, Nat.mul_one]; exact hg) | (rw [Int.toNat_natCast]; exact hg))) | (apply Ab.Nm.mk; first | exact nrm_) | (apply Xg.s; constructor) | (apply Ab.asm; assumption) | rfl | infer_instance | decide))
    all_goals apply RetE.puR I2
    case he => exact evr_
    case hg => rfl
    · exact hw
    · exact hw.nm
end Go.Proofs.Ytoiplbackllgfaa

/- lines: what senders send: Ready and Tick, by the program. -/
namespace Go.Proofs.Ytoiplbackllgfaa
set_option linter.unusedVariables false
set_option linter.unusedSimpArgs false
set_option linter.unusedSectionVars false
open Go.RowKit Ab HP
attribute [local irreducible] AOps AOpsD AOpsP QStep NX AOp AWp put nargs AHeap.set At Free ACall ACallE thenQ blockQ roundQ RetQ RetE Src Gr
theorem datS : Dat 4 RS := ⟨fun b b' c x hs ⟨v, e, h⟩ => ⟨v, e, h.sub datQ hs⟩, fun b c x ⟨v, e, h⟩ y hy => by
  subst e
  simp only [List.mem_cons, List.not_mem_nil, or_false] at hy
  rcases hy with rfl | rfl | rfl | rfl
  · trivial
  · trivial
  · exact h.nm
  · trivial, by decide⟩
def topS (x : Sd) : Nat := min 16 x.q.length
def readyS (x : Sd) : Sd × List Nb := if x.sent.toNat < topS x then (⟨x.base, topS x, x.q, 4⟩, ((nmb x.base x.q).drop x.sent.toNat).take (topS x - x.sent.toNat)) else (x, [])
def tickS (x : Sd) : Sd × List Nb := if x.sent = 0 then (x, []) else if x.clock - 1 > 0 then (⟨x.base, x.sent, x.q, x.clock - 1⟩, []) else (⟨x.base, x.sent, x.q, 4⟩, (nmb x.base x.q).take x.sent.toNat)
/-- A sender, what it sends, no error. -/
def R3 (y : Sd) (l : List Nb) (r : Value) (b : AHeap) : Prop := ∃ c w, r = .tuple #[.agg c.toArray, w, .int .i64 0] ∧ RS b c y ∧ Sl b 2 (RN b) w l
theorem R3.mk {y : Sd} {l : List Nb} {b : AHeap} {c : List Value} {w : Value} (h : RS b c y) (k : Sl b 2 (RN b) w l) : R3 y l (resV [.agg c.toArray, w, .int .i64 0]) b ∧ nmR (fun i => (b i).isSome = true) (resV [.agg c.toArray, w, .int .i64 0]) := by
  refine ⟨⟨c, w, rfl, h, k⟩, ?_⟩
  refine nmT (l := [_, _, _]) fun x hx => ?_
  simp only [List.mem_cons, List.not_mem_nil, or_false] at hx
  rcases hx with rfl | rfl | rfl
  · exact nmG (datS.nm _ _ _ h)
  · exact k.nmB
  · trivial
set_option maxHeartbeats 4000000 in
theorem ready59' {s b : AHeap} {base clock : Int} {k : Nat} {v : Value} {q : List (List Int)} (hb : Sub b s) (h : Qt b v q) (hm : Sd.May ⟨base, k, q, clock⟩) :
    ACallE Try.prog 59 [.agg #[.int .i64 base, .int .i64 k, v, .int .i64 clock]] s (Pu s b (R3 (readyS ⟨base, k, q, clock⟩).1 (readyS ⟨base, k, q, clock⟩).2)) := by
  have hq : q.length ≤ 256 := hm.1.2.1
  have hl : ∀ x ∈ q, x.length ≤ 1000000000 := fun x hx => Nat.le_trans (big_get hm.2 x hx) (by omega)
  have hO := hm.1
  simp only [Sd.Ok] at hO
  have hkt : k ≤ min 16 q.length := by omega
  obtain ⟨t, ht⟩ : ∃ t, t = min 16 q.length := ⟨_, rfl⟩
  have htop : topS ⟨base, k, q, clock⟩ = t := ht.symm
  rw [← ht] at hkt
  refine ACallE.make Try.func59 rfl (by kernel_rfl) (by decide) rfl (fun N hN0 => ?_)
  have hT : Top N s := hN0
  obtain ⟨A, cap, rfl, hcap⟩ := h.isl
  obtain ⟨s1, hs1⟩ : ∃ s1 : AHeap, s1 = (s.set N (.cells true 1 [.int .i64 base, .int .i64 k, .slice A q.length cap, .int .i64 clock])).set (N + 1) (.cells true 1 [.int .i64 0, .int .i64 0, .slice none 0 0, .int .i64 0]) := ⟨_, rfl⟩
  have I1 : Inv s b s1 b := by rw [hs1]; exact ((Inv.refl hb).boxT hT (Nat.le_refl _)).boxT hT.new (Nat.le_refl _)
  have PN : Prv s s1 b N := by rw [hs1]; exact (Prv.mk' (Inv.refl hb) (hT.none (Nat.le_refl _))).set
  have PN1 : Prv s s1 b (N + 1) := by rw [hs1]; exact Prv.mk' ((Inv.refl hb).boxT hT (Nat.le_refl _)) (hT.new.none (Nat.le_refl _))
  have T1 : Top (N + 2) s1 := by rw [hs1]; exact hT.new.new
  have aN : At s1 N (.cells true 1 [.int .i64 base, .int .i64 k, .slice A q.length cap, .int .i64 clock]) := by rw [hs1]; exact at_
  have aN1 : At s1 (N + 1) (.cells true 1 [.int .i64 0, .int .i64 0, .slice none 0 0, .int .i64 0]) := by rw [hs1]; exact At.hit
  have c43 := checkS' (s := s1) (base := base) (sent := k) (clock := clock) (h.sub datQ I1.sub) (by omega)
  rw [if_pos hm] at c43
  have c76 := numbered76 (f := k) (t := t) (sent := k) (clock := clock) (base := base) I1.sub h hkt (by omega) (by omega) hl hO.1

  (repeat' (first | (apply Ab.K.ev; exact ev_) | (apply Ab.K.aops; first | (apply Xg.s; constructor) | apply Ab.S.guardG) | (apply Ab.K.aop; first | (first | (apply Ab.O.boxA N; (case hx => exact ev_); (case hid => exact frees_)) | (apply Ab.O.allocA (N + 1); (case hid => exact frees_); (case hp => rfl)) | (apply Ab.O.minK (c := ((t : Nat) : Int)); (case hx => exact ev_); (case hy => exact ev_); (case hc => split <;> omega)) | (apply Ab.O.callFE; (case ha => exact evs_); (case hc => exact c76))) | (apply Og.s; constructor)) | (apply Ab.K.gk; first | (apply Xg.s; constructor) | (apply Ab.gY; case hw => assumption) | (apply Ab.gNT; case hw => assumption) | (apply Ab.gNF; case hw => assumption) | ((first | apply Ab.gD | apply Ab.gDN); all_goals (intro _ _; (first | contradiction | (exfalso; omega) | skip)))) | (apply Ab.K.awp; first | (apply Xg.s; constructor)) | (apply Ab.K.at_; exact at_) | (apply Ab.K.acall; first | assumption | (rw [← hs1]; exact c43)) | (apply Ab.Rg.mk; omega) | (apply Ab.Lt.mk; first | decide | (simp; done) | (simp; omega) | fail) | (apply Ab.Get.mk; first | rfl | fail) | (apply Ab.Nm.mk; first | exact nrm_) | (apply Xg.s; constructor) | (apply Ab.asm; assumption) | rfl | infer_instance | decide))
  rintro w s2 ⟨b2, I2, hw⟩
  clear c43 c76 hs1
  have I3 := I1.trans I2
  obtain ⟨M2, hM2, T2⟩ := I2.fin _ T1
  have aN2 := I2.kp.at_ aN
  have aN12 := I2.kp.at_ aN1
  have PN2 := PN.call I2
  have PN12 := PN1.call I2
  have c75 := ownQ I2.sub (h.sub datQ I2.old) (by omega) hl
  clear aN aN1 PN PN1 T1
  (repeat' (first | (apply Ab.K.ev; exact ev_) | (apply Ab.K.aops; first | (apply Xg.s; constructor) | apply Ab.S.guardG) | (apply Ab.K.aop; first | (apply Ab.O.callFE; (case ha => exact evs_); (case hc => exact c75)) | (apply Og.s; constructor)) | (apply Ab.K.gk; first | (apply Xg.s; constructor) | (apply Ab.gY; case hw => assumption) | (apply Ab.gNT; case hw => assumption) | (apply Ab.gNF; case hw => assumption) | ((first | apply Ab.gD | apply Ab.gDN); all_goals (intro _ _; (first | contradiction | (exfalso; omega) | skip)))) | (apply Ab.K.awp; first | (apply Xg.s; constructor)) | (apply Ab.K.at_; exact at_) | (apply Ab.K.acall; first | assumption | fail) | (apply Ab.Rg.mk; omega) | (apply Ab.Lt.mk; first | decide | (simp; done) | (simp; omega) | fail) | (apply Ab.Get.mk; first | rfl | fail) | (apply Ab.Nm.mk; first | exact nrm_) | (apply Xg.s; constructor) | (apply Ab.asm; assumption) | rfl | infer_instance | decide))
  rintro u s3 ⟨b3, I4, hu⟩
  clear c75
  have I5 := I3.trans I4
  have aN3 := I4.kp.at_ aN2
  have aN13 := I4.kp.at_ aN12
  have PN3 := PN2.call I4
  have PN13 := PN12.call I4
  have hw3 := hw.sub datN I4.old
  obtain ⟨B, c2, rfl, _⟩ := hu.isl
  obtain ⟨D, c3, rfl, _⟩ := hw3.isl
  have hlen : (((nmb base q).drop k).take (t - k)).length = t - k := by rw [List.length_take, List.length_drop, nmb_length]; omega
  by_cases hk : k < t
  · have hy : readyS ⟨base, k, q, clock⟩ = (⟨base, (t : Nat), q, 4⟩, ((nmb base q).drop k).take (t - k)) := by
      show (if k < topS _ then _ else _) = _
      rw [htop, if_pos hk]; rfl
    rw [hy]
    (repeat' (first | (apply Ab.K.ev; exact ev_) | (apply Ab.K.aops; first | (apply Xg.s; constructor) | apply Ab.S.guardG) | (apply Ab.K.aop; first | (apply Og.s; constructor)) | (apply Ab.K.gk; first | (apply Xg.s; constructor) | (apply Ab.gY; case hw => assumption) | (apply Ab.gNT; case hw => assumption) | (apply Ab.gNF; case hw => assumption) | ((first | apply Ab.gD | apply Ab.gDN); all_goals (intro _ _; (first | contradiction | (exfalso; omega) | skip)))) | (apply Ab.K.awp; first | (apply Xg.s; constructor)) | (apply Ab.K.at_; exact at_) | (apply Ab.K.acall; first | assumption | fail) | (apply Ab.Rg.mk; omega) | (apply Ab.Lt.mk; first | decide | (simp; done) | (simp; omega) | fail) | (apply Ab.Get.mk; first | rfl | fail) | (apply Ab.Nm.mk; first | exact nrm_) | (apply Xg.s; constructor) | (apply Ab.asm; assumption) | rfl | infer_instance | decide))
    all_goals apply RetE.puR (b := b3)
    case I => (repeat' (first | assumption | (apply Ab.Inv.boxP; (case p => (repeat' (first | assumption | apply Ab.Prv.set))))))
    case he => exact evr_
    case hg => rfl
    · exact (R3.mk ⟨_, rfl, hu⟩ hw3).1
    · exact (R3.mk (y := ⟨base, (t : Nat), q, 4⟩) ⟨_, rfl, hu⟩ hw3).2
  · have hy : readyS ⟨base, k, q, clock⟩ = (⟨base, k, q, clock⟩, []) := by
      show (if k < topS _ then _ else _) = _
      rw [htop, if_neg hk]
    rw [hy]
    have hz : t - k = 0 := by omega
    rw [hz, List.take_zero] at hw3 hlen ⊢
    (repeat' (first | (apply Ab.K.ev; exact ev_) | (apply Ab.K.aops; first | (apply Xg.s; constructor) | apply Ab.S.guardG) | (apply Ab.K.aop; first | (apply Og.s; constructor)) | (apply Ab.K.gk; first | (apply Xg.s; constructor) | (apply Ab.gY; case hw => assumption) | (apply Ab.gNT; case hw => assumption) | (apply Ab.gNF; case hw => assumption) | ((first | apply Ab.gD | apply Ab.gDN); all_goals (intro _ _; (first | contradiction | (exfalso; omega) | skip)))) | (apply Ab.K.awp; first | (apply Xg.s; constructor)) | (apply Ab.K.at_; exact at_) | (apply Ab.K.acall; first | assumption | fail) | (apply Ab.Rg.mk; omega) | (apply Ab.Lt.mk; first | decide | (simp; done) | (simp; omega) | fail) | (apply Ab.Get.mk; first | rfl | fail) | (apply Ab.Nm.mk; first | exact nrm_) | (apply Xg.s; constructor) | (apply Ab.asm; assumption) | rfl | infer_instance | decide))
    all_goals apply RetE.puR (b := b3)
    case I => (repeat' (first | assumption | (apply Ab.Inv.boxP; (case p => (repeat' (first | assumption | apply Ab.Prv.set))))))
    case he => exact evr_
    case hg => rfl
    · exact (R3.mk ⟨_, rfl, hu⟩ hw3).1
    · exact (R3.mk (y := ⟨base, k, q, clock⟩) ⟨_, rfl, hu⟩ hw3).2
end Go.Proofs.Ytoiplbackllgfaa

/- lines: frames: which may be, which are alike; light senders. -/
namespace Go.Proofs.Ytoiplbackllgfaa
set_option linter.unusedVariables false
set_option linter.unusedSimpArgs false
set_option linter.unusedSectionVars false
open Go.RowKit Ab HP
attribute [local irreducible] AOps AOpsD AOpsP QStep NX AOp AWp put nargs AHeap.set At Free ACall ACallE thenQ blockQ roundQ RetQ RetE Src Gr
structure Fm where
  kind : Int
  ses : Int
  seq : Int
  ack : Int
  pay : List Int
deriving DecidableEq
def RF (b : AHeap) (c : List Value) (x : Fm) : Prop := ∃ v, c = [.int .i64 x.kind, .int .i64 x.ses, .int .i64 x.seq, .int .i64 x.ack, v] ∧ Bt b v x.pay
theorem datF : Dat 5 RF := ⟨fun b b' c x hs ⟨v, e, h⟩ => ⟨v, e, h.bt hs⟩, fun b c x ⟨v, e, h⟩ y hy => by
  subst e
  simp only [List.mem_cons, List.not_mem_nil, or_false] at hy
  rcases hy with rfl | rfl | rfl | rfl | rfl
  · trivial
  · trivial
  · trivial
  · trivial
  · exact h.nm, by decide⟩
abbrev Cnt (n : Int) : Prop := 0 ≤ n ∧ n ≤ 2147483647
def Fm.May (f : Fm) : Prop := (1 ≤ f.kind ∧ f.kind < 6) ∧ Cnt f.ses ∧ Cnt f.seq ∧ Cnt f.ack ∧ f.pay.length ≤ 16384 ∧ (f.kind = 3 ∨ f.pay.length = 0)
instance instFmMay (f : Fm) : Decidable f.May := by unfold Fm.May; infer_instance
theorem count66 {s : AHeap} {n : Int} : ACall Try.prog 66 [.int .i64 n] s (.bool (decide (Cnt n))) s := by
  by_cases h : Cnt n
  case' pos => rw [decide_eq_true h]
  case' neg => rw [decide_eq_false h]
  all_goals refine ACall.make Try.func66 rfl (by kernel_rfl) (by decide) rfl (fun N hN => ?_)
  all_goals (repeat' (first | (apply Ab.K.ev; exact ev_) | (apply Ab.K.aops; first | (apply Xg.s; constructor) | apply Ab.S.guardG) | (apply Ab.K.aop; first | (apply Og.s; constructor)) | (apply Ab.K.gk; first | (apply Xg.s; constructor) | (apply Ab.gY; case hw => assumption) | (apply Ab.gNT; case hw => assumption) | (apply Ab.gNF; case hw => assumption) | ((first | apply Ab.gD | apply Ab.gDN); all_goals (intro _ _; (first | contradiction | (exfalso; omega) | skip)))) | (apply Ab.K.awp; first | (apply Xg.s; constructor)) | (apply Ab.K.at_; exact at_) | (apply Ab.K.acall; first | assumption | fail) | (apply Ab.Rg.mk; omega) | (apply Ab.Lt.mk; first | decide | (simp; done) | (simp; omega) | fail) | (apply Ab.Get.mk; first | rfl | fail) | (apply Ab.Nm.mk; first | exact nrm_) | (apply Xg.s; constructor) | (apply Ab.asm; assumption) | rfl | infer_instance | decide))
  all_goals ((first | apply RetQ.ret | apply RetQ.normal); (case he => exact evr_); (case hg => rfl))
  all_goals first | exact Keeps.self trivial | rfl | (simp only [resV]; congr 1; simp; omega)


set_option maxHeartbeats 4000000 in
theorem checkF' {s : AHeap} {kind ses seq ack : Int} {v : Value} {p : List Int} (h : Bt s v p) :
    ACall Try.prog 32 [.agg #[.int .i64 kind, .int .i64 ses, .int .i64 seq, .int .i64 ack, v]] s (.int .i64 (if Fm.May ⟨kind, ses, seq, ack, p⟩ then 0 else 1)) s := by
  refine ACall.make Try.func32 rfl (by kernel_rfl) (by decide) rfl (fun N hN0 => ?_)
  have hT : Top N s := hN0
  obtain ⟨A, cap, rfl, hcap⟩ := h.isl
  have F1 : Fr (s.set N (.cells true 1 [.int .i64 kind, .int .i64 ses, .int .i64 seq, .int .i64 ack, .slice A p.length cap])) s [] := Fr.new (hT.free (Nat.le_refl _)) (Fr.refl _ _)
  clear h
  by_cases hO : Fm.May ⟨kind, ses, seq, ack, p⟩
  case' pos => rw [if_pos hO]
  case' neg => rw [if_neg hO]
  all_goals simp only [Fm.May] at hO
  all_goals (repeat' (first | (apply Ab.K.ev; exact ev_) | (apply Ab.K.aops; first | (apply Xg.s; constructor) | (apply Ab.S.guardU; (case hd => rfl); (case hb => (exact ev_; done))) | apply Ab.S.guardG) | (apply Ab.K.aop; first | (first | (apply Ab.O.boxA N; (case hx => exact ev_); (case hid => exact frees_))) | (apply Og.s; constructor)) | (apply Ab.K.gk; first | (apply Xg.s; constructor) | (apply Ab.gY; case hw => assumption) | (apply Ab.gNT; case hw => assumption) | (apply Ab.gNF; case hw => assumption) | ((first | apply Ab.gD | apply Ab.gDN); all_goals (intro _ _; (first | contradiction | (exfalso; omega) | skip)))) | (apply Ab.K.awp; first | (apply Xg.s; constructor)) | (apply Ab.K.at_; exact at_) | (apply Ab.K.acall; first | assumption | exact count66) | (apply Ab.Rg.mk; omega) | (apply Ab.Lt.mk; first | decide | (simp; done) | (simp; omega) | fail) | (apply Ab.Get.mk; first | rfl | fail) | (apply Ab.Nm.mk; first | exact nrm_) | (apply Xg.s; constructor) | (apply Ab.asm; assumption) | rfl | infer_instance | decide))
  all_goals ((first | apply RetQ.ret | apply RetQ.normal); (case he => exact evr_); (case hg => rfl))
  all_goals first | rfl | exact Keeps.fr F1 (plR.nm rfl)

set_option maxHeartbeats 8000000 in
theorem mayF' {s : AHeap} {kind ses seq ack : Int} {v : Value} {p : List Int} (h : Bt s v p) :
    ACall Try.prog 13 [.agg #[.int .i64 kind, .int .i64 ses, .int .i64 seq, .int .i64 ack, v]] s (.bool (decide (Fm.May ⟨kind, ses, seq, ack, p⟩))) s := by
  refine ACall.make Try.func13 rfl (by kernel_rfl) (by decide) rfl (fun N hN0 => ?_)
  have hT : Top N s := hN0
  obtain ⟨A, cap, rfl, hcap⟩ := h.isl
  obtain ⟨s1, hs1⟩ : ∃ s1 : AHeap, s1 = (s.set N (.cells true 1 [.int .i64 kind, .int .i64 ses, .int .i64 seq, .int .i64 ack, .slice A p.length cap])).set (N + 1) (.cells true 1 [.int .i64 ses, .int .i64 seq, .int .i64 ack]) := ⟨_, rfl⟩
  have F1 : Fr s1 s [] := by rw [hs1]; exact Fr.new (hT.free (by omega)) (Fr.new (hT.free (Nat.le_refl _)) (Fr.refl _ _))
  have aN : At s1 N (.cells true 1 [.int .i64 kind, .int .i64 ses, .int .i64 seq, .int .i64 ack, .slice A p.length cap]) := by rw [hs1]; exact at_
  have aN1 : At s1 (N + 1) (.cells true 1 [.int .i64 ses, .int .i64 seq, .int .i64 ack]) := by rw [hs1]; exact At.hit
  clear h
  (repeat' (first | (apply Ab.K.ev; exact ev_) | (apply Ab.K.aops; first | (apply Xg.s; constructor) | (apply Ab.S.guardU; (case hd => rfl); (case hb => (exact ev_; done))) | apply Ab.S.guardG) | (apply Ab.K.aop; first | (first | (apply Ab.O.boxA N; (case hx => exact ev_); (case hid => exact frees_)) | (apply Ab.O.buildSlice (N + 1) (te := ⟨.int .i64, 1, 8, .int .i64 0⟩) (c := [.int .i64 ses, .int .i64 seq, .int .i64 ack]); (case hp => exact evp_); (case hz => exact ⟨rfl, by decide, rfl⟩); (case hc => rfl); (case hid => exact frees_))) | (apply Og.s; constructor)) | (apply Ab.K.gk; first | (apply Xg.s; constructor) | (apply Ab.gY; case hw => assumption) | (apply Ab.gNT; case hw => assumption) | (apply Ab.gNF; case hw => assumption) | ((first | apply Ab.gD | apply Ab.gDN); all_goals (intro _ _; (first | contradiction | (exfalso; omega) | skip)))) | (apply Ab.K.awp; first | (apply Xg.s; constructor)) | (apply Ab.K.at_; exact at_) | (apply Ab.K.acall; first | assumption | fail) | (apply Ab.Rg.mk; omega) | (apply Ab.Lt.mk; first | decide | (simp; done) | (simp; omega) | fail) | (apply Ab.Get.mk; first | rfl | fail) | (apply Ab.Nm.mk; first | exact nrm_) | (apply Xg.s; constructor) | (apply Ab.asm; assumption) | rfl | infer_instance | decide))
  rw [← hs1]
  refine AWp.loop (fun kk tm s2 => ∃ (i : Nat), Ev tm (.tmp 1) (.pointer (some ⟨N, 0, none⟩)) ∧ Ev tm (.tmp 11) (.slice (some ⟨N + 1, 0, none⟩) 3 3) ∧ Ev tm (.tmp 12) (.int .i64 3) ∧ Ev tm (.tmp 13) (.int .i64 i) ∧ s2 = s1 ∧ (∀ j x, j < i → [ses, seq, ack][j]? = some x → Cnt x) ∧ i ≤ 3 ∧ kk = 3 - i) 3 ?_ ?_
  · exact ⟨0, by exact ev_, by exact ev_, by exact ev_, by exact ev_, rfl, (fun j x h => absurd h (Nat.not_lt_zero _)), by omega, rfl⟩
  rintro kk tm s2 ⟨i, e1, e11, e12, e13, rfl, hcn, hi, hkk⟩
  clear hs1
  by_cases hin : i < 3
  · obtain ⟨x, hx⟩ : ∃ x, [ses, seq, ack][i]? = some x := ⟨_, List.getElem?_eq_getElem (by simpa using hin)⟩
    have hg : ([.int .i64 ses, .int .i64 seq, .int .i64 ack] : List Value)[i]? = some (.int .i64 x) := by
      rcases (show i = 0 ∨ i = 1 ∨ i = 2 by omega) with rfl | rfl | rfl <;> (simp at hx; subst hx; rfl)
    by_cases hc : Cnt x
    · (repeat' (first | (apply Ab.K.ev; exact ev_) | (apply Ab.K.aops; first | (apply Xg.s; constructor) | (apply Ab.S.guardU; (case hd => rfl); (case hb => (exact ev_; done))) | apply Ab.S.guardG) | (apply Ab.K.aop; first | (apply Og.s; constructor)) | (apply Ab.K.gk; first | (apply Xg.s; constructor) | (apply Ab.gY; case hw => assumption) | (apply Ab.gNT; case hw => assumption) | (apply Ab.gNF; case hw => assumption) | ((first | apply Ab.gD | apply Ab.gDN); all_goals (intro _ _; (first | contradiction | (exfalso; omega) | skip)))) | (apply Ab.K.awp; first | (apply Xg.s; constructor)) | (apply Ab.K.at_; exact at_) | (apply Ab.K.acall; first | assumption | fail) | (apply Ab.Rg.mk; omega) | (apply Ab.Lt.mk; first | decide | (simp; done) | (simp; omega) | fail) | (apply Ab.Get.mk; first | rfl | (first | rfl | (rw [Int.toNat_natCast]; exact hg))) | (apply Ab.Nm.mk; first | exact nrm_) | (apply Xg.s; constructor) | (apply Ab.asm; assumption) | rfl | infer_instance | decide))
      exact X.roundN (3 - (i + 1)) (by omega) ⟨i + 1, by exact ev_, by exact ev_, by exact ev_, by exact ev_, rfl, (fun j y hj hy => by
        by_cases e : j = i
        · subst e; rw [hx] at hy; obtain rfl := Option.some.inj hy; exact hc
        · exact hcn j y (by omega) hy), by omega, by omega⟩
    · rw [decide_eq_false (fun h : Fm.May ⟨kind, ses, seq, ack, p⟩ => hc (by
        obtain ⟨_, h1, h2, h3, _⟩ := h
        rcases (show i = 0 ∨ i = 1 ∨ i = 2 by omega) with rfl | rfl | rfl <;> (simp at hx; subst hx; assumption)))]
      by_cases hc1 : x < 0
      all_goals (repeat' (first | (apply Ab.K.ev; exact ev_) | (apply Ab.K.aops; first | (apply Xg.s; constructor) | (apply Ab.S.guardU; (case hd => rfl); (case hb => (exact ev_; done))) | apply Ab.S.guardG) | (apply Ab.K.aop; first | (apply Og.s; constructor)) | (apply Ab.K.gk; first | (apply Xg.s; constructor) | (apply Ab.gY; case hw => assumption) | (apply Ab.gNT; case hw => assumption) | (apply Ab.gNF; case hw => assumption) | ((first | apply Ab.gD | apply Ab.gDN); all_goals (intro _ _; (first | contradiction | (exfalso; omega) | skip)))) | (apply Ab.K.awp; first | (apply Xg.s; constructor)) | (apply Ab.K.at_; exact at_) | (apply Ab.K.acall; first | assumption | fail) | (apply Ab.Rg.mk; omega) | (apply Ab.Lt.mk; first | decide | (simp; done) | (simp; omega) | fail) | (apply Ab.Get.mk; first | rfl | (first | rfl | (rw [Int.toNat_natCast]; exact hg))) | (apply Ab.Nm.mk; first | exact nrm_) | (apply Xg.s; constructor) | (apply Ab.asm; assumption) | rfl | infer_instance | decide))
      all_goals ((first | apply RetQ.ret | apply RetQ.normal); (case he => exact evr_); (case hg => rfl))
      all_goals first | rfl | exact Keeps.fr F1 (plR.nm rfl)
  · obtain rfl : i = 3 := by omega
    have h1 := hcn 0 ses (by omega) rfl
    have h2 := hcn 1 seq (by omega) rfl
    have h3 := hcn 2 ack (by omega) rfl
    by_cases hO : Fm.May ⟨kind, ses, seq, ack, p⟩
    case' pos => rw [decide_eq_true hO]
    case' neg => rw [decide_eq_false hO]
    all_goals simp only [Fm.May] at hO
    all_goals clear hcn
    all_goals (repeat' (first | (apply Ab.K.ev; exact ev_) | (apply Ab.K.aops; first | (apply Xg.s; constructor) | (apply Ab.S.guardU; (case hd => rfl); (case hb => (exact ev_; done))) | apply Ab.S.guardG) | (apply Ab.K.aop; first | (apply Og.s; constructor)) | (apply Ab.K.gk; first | (apply Xg.s; constructor) | (apply Ab.gY; case hw => assumption) | (apply Ab.gNT; case hw => assumption) | (apply Ab.gNF; case hw => assumption) | ((first | apply Ab.gD | apply Ab.gDN); all_goals (intro _ _; (first | contradiction | (exfalso; omega) | skip)))) | (apply Ab.K.awp; first | (apply Xg.s; constructor)) | (apply Ab.K.at_; exact at_) | (apply Ab.K.acall; first | assumption | fail) | (apply Ab.Rg.mk; omega) | (apply Ab.Lt.mk; first | decide | (simp; done) | (simp; omega) | fail) | (apply Ab.Get.mk; first | rfl | rfl) | (apply Ab.Nm.mk; first | exact nrm_) | (apply Xg.s; constructor) | (apply Ab.asm; assumption) | rfl | infer_instance | decide))
    all_goals ((first | apply RetQ.ret | apply RetQ.normal); (case he => exact evr_); (case hg => rfl))
    all_goals first | rfl | exact Keeps.fr F1 (plR.nm rfl) | (simp only [resV]; congr 1; first | (simp; done) | (simp; omega) | (rw [decide_eq_true_iff]; omega) | (rw [decide_eq_false_iff_not]; omega))
theorem checkF {s : AHeap} {c : List Value} {x : Fm} (h : RF s c x) : ACall Try.prog 32 [.agg c.toArray] s (.int .i64 (if x.May then 0 else 1)) s := by
  obtain ⟨v, rfl, hv⟩ := h; exact checkF' hv
theorem mayF {s : AHeap} {c : List Value} {x : Fm} (h : RF s c x) : ACall Try.prog 13 [.agg c.toArray] s (.bool (decide x.May)) s := by
  obtain ⟨v, rfl, hv⟩ := h; exact mayF' hv
set_option maxHeartbeats 4000000 in
theorem same50' {s : AHeap} {kind ses seq ack kind' ses' seq' ack' : Int} {v w : Value} {p r : List Int} (h : Bt s v p) (k : Bt s w r) :
    ACall Try.prog 50 [.agg #[.int .i64 kind, .int .i64 ses, .int .i64 seq, .int .i64 ack, v], .agg #[.int .i64 kind', .int .i64 ses', .int .i64 seq', .int .i64 ack', w]] s (.bool (decide ((kind = kind' ∧ ses = ses' ∧ seq = seq' ∧ ack = ack') ∧ p = r))) s := by
  refine ACall.make Try.func50 rfl (by kernel_rfl) (by decide) rfl (fun N hN0 => ?_)
  have hT : Top N s := hN0
  have hp := strOf_dec h.byt k.byt
  have F1 : Fr ((s.set N (.cells true 1 [.int .i64 kind, .int .i64 ses, .int .i64 seq, .int .i64 ack, v])).set (N + 1) (.cells true 1 [.int .i64 kind', .int .i64 ses', .int .i64 seq', .int .i64 ack', w])) s [] := Fr.new (hT.free (by omega)) (Fr.new (hT.free (Nat.le_refl _)) (Fr.refl _ _))
  have hb : Bt ((s.set N (.cells true 1 [.int .i64 kind, .int .i64 ses, .int .i64 seq, .int .i64 ack, v])).set (N + 1) (.cells true 1 [.int .i64 kind', .int .i64 ses', .int .i64 seq', .int .i64 ack', w])) v p := h.bt fun i c hc => F1 i (by simp) c hc
  have hb' : Bt ((s.set N (.cells true 1 [.int .i64 kind, .int .i64 ses, .int .i64 seq, .int .i64 ack, v])).set (N + 1) (.cells true 1 [.int .i64 kind', .int .i64 ses', .int .i64 seq', .int .i64 ack', w])) w r := k.bt fun i c hc => F1 i (by simp) c hc
  obtain ⟨A, cap, rfl, hcap⟩ := h.isl
  obtain ⟨B, cap2, rfl, hcap2⟩ := k.isl

  by_cases hc : kind = kind' ∧ ses = ses' ∧ seq = seq' ∧ ack = ack'
  case' pos => rw [show decide ((kind = kind' ∧ ses = ses' ∧ seq = seq' ∧ ack = ack') ∧ p = r) = decide (p = r) from decide_eq_decide.2 ⟨fun h => h.2, fun h => ⟨hc, h⟩⟩]
  case' neg => rw [decide_eq_false (fun h : (kind = kind' ∧ ses = ses' ∧ seq = seq' ∧ ack = ack') ∧ p = r => hc h.1)]
  all_goals clear h k
  all_goals (repeat' (first | (apply Ab.K.ev; exact ev_) | (apply Ab.K.aops; first | (apply Xg.s; constructor) | apply Ab.S.guardG) | (apply Ab.K.aop; first | (first | (apply Ab.O.boxA N; (case hx => exact ev_); (case hid => exact frees_)) | (apply Ab.O.boxA (N + 1); (case hx => exact ev_); (case hid => exact frees_)) | (apply Ab.O.strB; (case hx => exact ev_); (case h => first | exact hb | exact hb'))) | (apply Ab.O.strEq; (case hx => exact ev_); (case hy => exact ev_); (case h => rw [hp])) | (apply Og.s; constructor)) | (apply Ab.K.gk; first | (apply Xg.s; constructor) | (apply Ab.gY; case hw => assumption) | (apply Ab.gNT; case hw => assumption) | (apply Ab.gNF; case hw => assumption) | ((first | apply Ab.gD | apply Ab.gDN); all_goals (intro _ _; (first | contradiction | (exfalso; omega) | skip)))) | (apply Ab.K.awp; first | (apply Xg.s; constructor)) | (apply Ab.K.at_; exact at_) | (apply Ab.K.acall; first | assumption | fail) | (apply Ab.Rg.mk; omega) | (apply Ab.Lt.mk; first | decide | (simp; done) | (simp; omega) | fail) | (apply Ab.Get.mk; first | rfl | rfl) | (apply Ab.Nm.mk; first | exact nrm_) | (apply Xg.s; constructor) | (apply Ab.asm; assumption) | rfl | infer_instance | decide))
  all_goals ((first | apply RetQ.ret | apply RetQ.normal); (case he => exact evr_); (case hg => rfl))
  all_goals first | rfl | exact Keeps.fr F1 (plR.nm rfl) | (simp only [resV]; congr)

theorem same50 {s : AHeap} {c d : List Value} {x y : Fm} (h : RF s c x) (k : RF s d y) : ACall Try.prog 50 [.agg c.toArray, .agg d.toArray] s (.bool (decide (x = y))) s := by
  obtain ⟨v, rfl, hv⟩ := h; obtain ⟨w, rfl, hw⟩ := k
  have e : decide (x = y) = decide ((x.kind = y.kind ∧ x.ses = y.ses ∧ x.seq = y.seq ∧ x.ack = y.ack) ∧ x.pay = y.pay) := decide_eq_decide.2 (by
    obtain ⟨a, b, c, d, e⟩ := x; obtain ⟨a', b', c', d', e'⟩ := y
    simp only [Fm.mk.injEq]
    exact ⟨fun ⟨a, b, c, d, e⟩ => ⟨⟨a, b, c, d⟩, e⟩, fun ⟨⟨a, b, c, d⟩, e⟩ => ⟨a, b, c, d, e⟩⟩)
  rw [e]; exact same50' hv hw
theorem retBool {P : Program} {rs : List ResultVar} {s s1 : AHeap} {Q : Value → AHeap → Prop} {tm : Env} {b : Bool} (F : Fr s1 s []) (he : EvR P tm s1 rs [.bool b]) (hq : Q (.bool b) s) : RetE P rs s Q .ret tm s1 := RetE.ret he rfl hq (Keeps.fr F (plR.nm rfl))
/-- What is asked of lists that come in: no number runs over. -/
def Sized (q : List (List Int)) : Prop := q.length ≤ 140737488355328 ∧ ∀ x ∈ q, x.length ≤ 140737488355328
set_option maxRecDepth 100000 in
set_option maxHeartbeats 4000000 in
theorem light8 {s : AHeap} {base sent clock : Int} {v : Value} {q : List (List Int)} (h : Qt s v q) (hz : Sized q) :
    ACallE Try.prog 8 [.agg #[.int .i64 base, .int .i64 sent, v, .int .i64 clock]] s (fun r s' => ∃ l : Bool, r = .bool l ∧ (l = true → q.length ≤ 300 ∧ ∀ x ∈ q, x.length ≤ 40000) ∧ s' = s) := by
  refine ACallE.make Try.func8 rfl (by kernel_rfl) (by decide) rfl (fun N hN0 => ?_)
  have hT : Top N s := hN0
  obtain ⟨A, cap, rfl, hcap⟩ := h.isl
  obtain ⟨s1, hs1⟩ : ∃ s1 : AHeap, s1 = s.set N (.cells true 1 [.int .i64 base, .int .i64 sent, .slice A q.length cap, .int .i64 clock]) := ⟨_, rfl⟩
  have F1 : Fr s1 s [] := by rw [hs1]; exact Fr.new (hT.free (Nat.le_refl _)) (Fr.refl _ _)
  have hS : Sub s s1 := fun i c hc => F1 i (by simp) c hc
  have aN : At s1 N (.cells true 1 [.int .i64 base, .int .i64 sent, .slice A q.length cap, .int .i64 clock]) := by rw [hs1]; exact At.hit
  have hz1 := hz.1
  (repeat' (first | (apply Ab.K.ev; exact ev_) | (apply Ab.K.aops; first | (apply Xg.s; constructor) | apply Ab.S.guardG) | (apply Ab.K.aop; first | (first | (apply Ab.O.boxA N; (case hx => exact ev_); (case hid => exact frees_))) | (apply Og.s; constructor)) | (apply Ab.K.gk; first | (apply Xg.s; constructor) | (apply Ab.gY; case hw => assumption) | (apply Ab.gNT; case hw => assumption) | (apply Ab.gNF; case hw => assumption) | ((first | apply Ab.gD | apply Ab.gDN); all_goals (intro _ _; (first | contradiction | (exfalso; omega) | skip)))) | (apply Ab.K.awp; first | (apply Xg.s; constructor)) | (apply Ab.K.at_; exact at_) | (apply Ab.K.acall; first | assumption | fail) | (apply Ab.Rg.mk; omega) | (apply Ab.Lt.mk; first | decide | (simp; done) | (simp; omega) | fail) | (apply Ab.Get.mk; first | rfl | rfl) | (apply Ab.Nm.mk; first | exact nrm_) | (apply Xg.s; constructor) | (apply Ab.asm; assumption) | rfl | infer_instance | decide))
  rw [← hs1]
  refine AWp.loop (fun kk tm s2 => ∃ (i n : Nat), Ev tm (.tmp 1) (.pointer (some ⟨N, 0, none⟩)) ∧ Ev tm (.tmp 3) (.int .i64 n) ∧ Ev tm (.tmp 4) (.int .i64 i) ∧ s2 = s1 ∧ (∀ x ∈ q.take i, x.length ≤ n) ∧ n ≤ 140737488400000 ∧ i ≤ q.length ∧ i ≤ 300 ∧ kk = 300 - i) 300 ?_ ?_
  · exact ⟨0, 0, by exact ev_, by exact ev_, by exact ev_, rfl, (fun x hx => by cases hx), by omega, by omega, by omega, rfl⟩
  rintro kk tm s2 ⟨i, n, e1, e3, e4, rfl, hcn, hn, hi, hi2, hkk⟩
  by_cases hin : (i < q.length ∧ i < 300) ∧ n ≤ 40000
  · obtain ⟨⟨h1, h2⟩, h3⟩ := hin
    obtain ⟨x, hx⟩ : ∃ x, q[i]? = some x := ⟨_, List.getElem?_eq_getElem h1⟩
    have hxl := hz.2 x (List.mem_of_getElem? hx)
    have htk : q.take (i + 1) = q.take i ++ [x] := by rw [List.take_add_one, hx]; rfl
    obtain ⟨o, off, c, sp, rw', cs, u, e, _, ha, hg, hu⟩ := h.qelt hx
    obtain ⟨rfl, rfl⟩ : A = some ⟨o, off, sp⟩ ∧ cap = c := by injection e with e1 e2 e3; exact ⟨e1, e3⟩
    have a1 := hS.at_ ha
    obtain ⟨B, c2, rfl, _⟩ := hu.isl
    (repeat' (first | (apply Ab.K.ev; exact ev_) | (apply Ab.K.aops; first | (apply Xg.s; constructor) | apply Ab.S.guardG) | (apply Ab.K.aop; first | (apply Og.s; constructor)) | (apply Ab.K.gk; first | (apply Xg.s; constructor) | (apply Ab.gY; case hw => assumption) | (apply Ab.gNT; case hw => assumption) | (apply Ab.gNF; case hw => assumption) | ((first | apply Ab.gD | apply Ab.gDN); all_goals (intro _ _; (first | contradiction | (exfalso; omega) | skip)))) | (apply Ab.K.awp; first | (apply Xg.s; constructor)) | (apply Ab.K.at_; exact at_) | (apply Ab.K.acall; first | assumption | fail) | (apply Ab.Rg.mk; omega) | (apply Ab.Lt.mk; first | decide | (simp; done) | (simp; omega) | fail) | (apply Ab.Get.mk; first | rfl | (first | rfl | (rw [Int.toNat_natCast, Nat.mul_one]; exact hg) | (rw [Int.toNat_natCast]; exact hg))) | (apply Ab.Nm.mk; first | exact nrm_) | (apply Xg.s; constructor) | (apply Ab.asm; assumption) | rfl | infer_instance | decide))
    exact X.roundN (300 - (i + 1)) (by omega) ⟨i + 1, n + x.length, by exact ev_, by rw [Int.natCast_add]; exact ev_, by exact ev_, rfl, (by
      rw [htk]
      intro y hy
      rcases List.mem_append.1 hy with hy | hy
      · have := hcn y hy; omega
      · rw [List.mem_singleton.1 hy]; omega), by omega, by omega, by omega, by omega⟩
  · by_cases hL : q.length ≤ 300 ∧ n ≤ 40000
    · have hiq : i = q.length := by omega
      rw [hiq, List.take_length] at hcn
      (repeat' (first | (apply Ab.K.ev; exact ev_) | (apply Ab.K.aops; first | (apply Xg.s; constructor) | apply Ab.S.guardG) | (apply Ab.K.aop; first | (apply Og.s; constructor)) | (apply Ab.K.gk; first | (apply Xg.s; constructor) | (apply Ab.gY; case hw => assumption) | (apply Ab.gNT; case hw => assumption) | (apply Ab.gNF; case hw => assumption) | ((first | apply Ab.gD | apply Ab.gDN); all_goals (intro _ _; (first | contradiction | (exfalso; omega) | skip)))) | (apply Ab.K.awp; first | (apply Xg.s; constructor)) | (apply Ab.K.at_; exact at_) | (apply Ab.K.acall; first | assumption | fail) | (apply Ab.Rg.mk; omega) | (apply Ab.Lt.mk; first | decide | (simp; done) | (simp; omega) | fail) | (apply Ab.Get.mk; first | rfl | (first | rfl | (rw [Int.toNat_natCast, Nat.mul_one]; exact hg) | (rw [Int.toNat_natCast]; exact hg))) | (apply Ab.Nm.mk; first | exact nrm_) | (apply Xg.s; constructor) | (apply Ab.asm; assumption) | rfl | infer_instance | decide))
      all_goals apply RetE.ret
      case he => exact evr_
      case hg => rfl
      · exact ⟨_, rfl, fun _ => ⟨hL.1, fun x hx => Nat.le_trans (hcn x hx) hL.2⟩, rfl⟩
      · exact Keeps.fr F1 (plR.nm rfl)
    · by_cases h1 : i < q.length
      case' pos => by_cases h2 : i < 300
      all_goals by_cases h4 : q.length ≤ 300
      all_goals (repeat' (first | (apply Ab.K.ev; exact ev_) | (apply Ab.K.aops; first | (apply Xg.s; constructor) | apply Ab.S.guardG) | (apply Ab.K.aop; first | (apply Og.s; constructor)) | (apply Ab.K.gk; first | (apply Xg.s; constructor) | (apply Ab.gY; case hw => assumption) | (apply Ab.gNT; case hw => assumption) | (apply Ab.gNF; case hw => assumption) | ((first | apply Ab.gD | apply Ab.gDN); all_goals (intro _ _; (first | contradiction | (exfalso; omega) | skip)))) | (apply Ab.K.awp; first | (apply Xg.s; constructor)) | (apply Ab.K.at_; exact at_) | (apply Ab.K.acall; first | assumption | fail) | (apply Ab.Rg.mk; omega) | (apply Ab.Lt.mk; first | decide | (simp; done) | (simp; omega) | fail) | (apply Ab.Get.mk; first | rfl | (first | rfl | (rw [Int.toNat_natCast, Nat.mul_one]; exact hg) | (rw [Int.toNat_natCast]; exact hg))) | (apply Ab.Nm.mk; first | exact nrm_) | (apply Xg.s; constructor) | (apply Ab.asm; assumption) | rfl | infer_instance | decide))
      all_goals (apply retBool F1; (case he => exact evr_); exact ⟨_, rfl, fun h => (by first | cases h | (have := of_decide_eq_true h; omega)), rfl⟩)
end Go.Proofs.Ytoiplbackllgfaa
