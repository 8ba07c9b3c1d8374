/- words: the document's bytes of a word, and the program's. -/
import Derived.Test.YtnkiocnnekgioaaWD
namespace Go.Proofs.Ytnkiocnnekgioaa
set_option linter.unusedVariables false
set_option linter.unusedSimpArgs false
set_option linter.unusedSectionVars false
open Go.RowKit Ab WP
attribute [local irreducible] AOps AOpsD AOp AWp put nargs AHeap.set At Free ACall thenQ blockQ roundQ RetQ Src

abbrev kv (k : Kn) : List Value := [.int .i64 k.node, .int .i64 k.peer, .int .i64 k.w, .int .i64 k.ses, .bool k.m]
def kc (l : List Kn) : List Value := l.flatMap kv
theorem kc_length (l : List Kn) : (kc l).length = l.length * 5 := by
  induction l with
  | nil => rfl
  | cons a l ih => simp only [kc, List.flatMap_cons, List.length_append, List.length_cons, List.length_nil] at *; omega
theorem kc_pl (l : List Kn) : (kc l).all pl1 = true := by
  induction l with
  | nil => rfl
  | cons a l ih => simp only [kc, List.flatMap_cons, List.all_append] at *; rw [ih]; rfl
theorem kc_append (a b : List Kn) : kc (a ++ b) = kc a ++ kc b := by simp [kc]
theorem kc_get : ∀ {l : List Kn} {i : Nat} (h : i < l.length), ((kc l).drop (i * 5)).take 5 = kv l[i]
  | a :: l, 0, _ => by simp [kc]
  | a :: l, i + 1, h => by
    have e : kc (a :: l) = kv a ++ kc l := by simp [kc]
    rw [e, show (i + 1) * 5 = 5 + i * 5 by omega, ← List.drop_drop]
    exact kc_get (l := l) (by simpa using h)
abbrev wv (w : Wd) (vn vl : Value) : List Value := [.int .i64 w.kind, .int .i64 w.epoch, .int .i64 w.root, vn, vl, .int .i64 w.ch.kind, .int .i64 w.ch.a, .int .i64 w.ch.b, .int .i64 w.ch.ses]
/-- Where a word's lists lie. -/
structure WdAt (s : AHeap) (w : Wd) (vn vl : Value) (on ol : Option Nat) : Prop where
  n : BA s 1 vn on w.ns.length (ints w.ns)
  l : BA s 5 vl ol w.ls.length (kc w.ls)
theorem BA.ext {s s' : AHeap} {es : Nat} {v : Value} {on : Option Nat} {n : Nat} {xs : List Value} (h : BA s es v on n xs) (hs : ∀ i b, s i = some b → s' i = some b) : BA s' es v on n xs := by
  cases h with
  | nil => exact .nil
  | blk h a b c => exact .blk (by unfold At; exact hs _ _ h.eq) a b c
theorem WdAt.of_at {s s' : AHeap} {w : Wd} {vn vl : Value} {on ol : Option Nat} (h : WdAt s w vn vl on ol) (hs : ∀ i b, s i = some b → s' i = some b) : WdAt s' w vn vl on ol := ⟨h.n.ext hs, h.l.ext hs⟩
theorem num_le (n w : Int) : (num n w).length ≤ 4 := by unfold num; (repeat' split) <;> simp
theorem num_ne (n w : Int) : (num n w).length ≠ 0 := by unfold num; (repeat' split) <;> simp
theorem num_len {n : Int} {k : Nat} (hk : k = 1 ∨ k = 2 ∨ k = 4) : (num n k).length = k := by rw [← hi_num hk, hi_length]
/-- Bytes in one's hand; what else lies there: K. -/
structure LL (s0 s : AHeap) (v : Value) (M b : Nat) (K : List (Nat × ABlk)) (l : List Int) : Prop where
  ex : ∃ on, LB s v on l ∧ (∀ o, on = some o → s0 o = none ∧ ∀ q ∈ K, q.1 ≠ o)
  kp : ∀ q ∈ K, At s q.1 q.2
  T : Top M s
  F : Fr s s0 []
  len : l.length ≤ b
theorem none_of {s0 s : AHeap} {M : Nat} (T : Top M s) (F : Fr s s0 []) : ∀ i, M ≤ i → s0 i = none := fun i hi => by
  cases hs : s0 i with
  | none => rfl
  | some b => have := F i (by simp) b hs; rw [T i hi] at this; cases this
theorem num_app {ops : Array Oper} {r : List Oper} {tm : Env} {s0 s : AHeap} {K : Env → AHeap → Prop} {d1 d2 : Tmp} {t1 t2 : TypeId} {ts : Array TypeId} {p1 p2 : String} {af1 af2 : Array Edge} {x y z : Operand} {n w : Int} {v : Value} {l : List Int} {M b : Nat} {KK : List (Nat × ABlk)}
    (h : LL s0 s v M b KK l) (hx : Ev tm x (.int .i64 n)) (hz : Ev tm z (.int .i64 w)) (hw : W3 w) (hn : 0 ≤ n ∧ n ≤ 9223372036854775807) (hb : b ≤ 100000000) (hy : ∀ u, Ev (put tm (some d1) u) y v)
    (hK : ∀ v' s', LL s0 s' v' (M + 2) (b + 4) KK (l ++ num n w) → AOps Try.prog ops r (put (put tm (some d1) (.slice (some ⟨M, 0, none⟩) w.toNat w.toNat)) (some d2) v') s' K) :
    AOps Try.prog ops (⟨some d1, .call ⟨.value (.func 31), #[x, z], ts⟩, t1, p1, af1, none⟩ :: ⟨some d2, .call ⟨.builtin .append, #[y, .tmp d1], #[34, 34]⟩, t2, p2, af2, none⟩ :: r) tm s K := by
  obtain ⟨⟨on, hv, hon⟩, kp, T, F, len⟩ := h
  obtain ⟨k, rfl⟩ : ∃ k : Nat, w = k := ⟨w.toNat, by rcases hw with rfl | rfl | rfl <;> rfl⟩
  have hk : k = 1 ∨ k = 2 ∨ k = 4 := by unfold W3 at hw; omega
  have hnl := num_len (n := n) hk
  have s0M := none_of T F
  have kM : ∀ q ∈ KK, q.1 < M := fun q hq => T.lt (kp q hq)
  apply S.op
  apply O.callF (l := [.int .i64 n, .int .i64 k])
  case ha => exact Evs.cons hx (Evs.cons hz Evs.nil)
  case hc => exact num31 hk hn (T.none (Nat.le_refl M))
  have hLM : ∀ o, on = some o → o < M := by
    cases hv with
    | nil => intro o e; cases e
    | blk h => intro o e; obtain rfl := Option.some.inj e; exact T.lt h
  have hv' : LB (s.set M (.cells true 1 (bc (num n k)))) v on l := hv.of_at fun o e => AHeap.set_other _ _ (by have := hLM o e; omega)
  have hLA : LAt (s.set M (.cells true 1 (bc (num n k)))) 1 v on l.length (bc l) := by
    cases hv' with
    | nil => exact .nil
    | blk h => exact .blk h (by rw [bc_length, Nat.mul_one])
  apply S.op
  refine O.appendL (M + 1) (v := v) (vy := .slice (some ⟨M, 0, none⟩) k k) (es := 1) (n := l.length) (m := k) (xs := bc l) (ys := bc (num n k)) (on := on) (hy _) hLA Ev.hit (srcAll At.hit (by rw [bc_length, hnl, Nat.mul_one])) rfl (by omega) (by rw [bc_length, hnl, Nat.mul_one]) (by decide) (by omega) (Free.miss (by omega) (T.free (by omega))) ?_
  intro s2 g
  refine hK _ _ ⟨⟨some (M + 1), ?_, fun o e => ?_⟩, fun q hq => ?_, ?_, ?_, ?_⟩
  · have := LB.blk (s := s2) (o := M + 1) (l := l ++ num n k) (by rw [bc_append]; exact g.hit)
    rw [List.length_append, hnl] at this; exact this
  · obtain rfl := Option.some.inj e
    exact ⟨s0M _ (by omega), fun q hq => by have := kM q hq; omega⟩
  · have h1 := kM q hq
    unfold At
    rw [g.off _ (fun e => (hon _ e).2 q hq rfl) (by omega), AHeap.set_other _ _ (by omega)]
    exact (kp q hq).eq
  · exact g.topN T.new (fun q' e => by have := hLM q' e; omega)
  · exact g.fr (Fr.new (free_of (s0M _ (Nat.le_refl _))) F) (fun q' e => .inl (hon q' e).1)
  · rw [List.length_append]; have := num_le n k; omega
theorem put_op {tm : Env} {s0 s : AHeap} {K : Value → AHeap → Prop} {d : Option Tmp} {t : TypeId} {ts : Array TypeId} {ps : String} {af : Array Edge} {gd : Option (Nat × Bool)} {f x z : Operand} {n w : Int} {l : List Int} {p M : Nat} {KK : List (Nat × ABlk)}
    (h : BL s0 s p M KK l) (hf : Ev tm f (.func (.func 17) #[] #[.pointer (some ⟨p, 0, none⟩)])) (hx : Ev tm x (.int .i64 n)) (hz : Ev tm z (.int .i64 w)) (hw : W3 w) (hn : 0 ≤ n ∧ n ≤ topV w) (hl : l.length ≤ 1000000)
    (hK : ∀ s', BL s0 s' p (M + 2) KK (l ++ num n w) → K (.tuple #[]) s') : AOp Try.prog ⟨d, .call ⟨.value f, #[x, z], ts⟩, t, ps, af, gd⟩ tm s K := by
  obtain ⟨k, rfl⟩ : ∃ k : Nat, w = k := ⟨w.toNat, by rcases hw with rfl | rfl | rfl <;> rfl⟩
  have hk : k = 1 ∨ k = 2 ∨ k = 4 := by unfold W3 at hw; omega
  obtain ⟨s', c, b⟩ := put_step h hk hn hl
  exact O.call (l := [.int .i64 n, .int .i64 k]) hf (Evs.cons hx (Evs.cons hz Evs.nil)) c (hK s' b)

def flN (l : List Int) : List Int := l.flatMap fun n => num n 1
def flK (l : List Kn) : List Int := l.flatMap fun k => encs KW k.nums
theorem flN_succ {l : List Int} {i : Nat} (h : i < l.length) : flN (l.take (i + 1)) = flN (l.take i) ++ num l[i] 1 := by
  unfold flN; rw [List.take_succ_eq_append_getElem h, List.flatMap_append, List.flatMap_singleton]
theorem flK_succ {l : List Kn} {i : Nat} (h : i < l.length) : flK (l.take (i + 1)) = flK (l.take i) ++ encs KW l[i].nums := by
  unfold flK; rw [List.take_succ_eq_append_getElem h, List.flatMap_append, List.flatMap_singleton]
def hd7 (w : Wd) : List Int := num w.kind 1 ++ num w.epoch 4 ++ num w.root 1 ++ num w.ch.kind 1 ++ num w.ch.a 1 ++ num w.ch.b 1 ++ num w.ch.ses 4 ++ num w.ns.length 1
theorem enc_eq (w : Wd) : w.enc = hd7 w ++ flN w.ns ++ num w.ls.length 2 ++ flK w.ls := by
  simp [Wd.enc, hd7, Wd.hd, encs, flN, flK, List.append_assoc]
/-- The numbers of a word that may be are numbers that may be put. -/
structure Nums (w : Wd) : Prop where
  a : 0 ≤ w.kind ∧ w.kind ≤ 255
  b : 0 ≤ w.epoch ∧ w.epoch ≤ 2147483647
  c : 0 ≤ w.root ∧ w.root ≤ 255
  d : 0 ≤ w.ch.kind ∧ w.ch.kind ≤ 255
  e : 0 ≤ w.ch.a ∧ w.ch.a ≤ 255
  f : 0 ≤ w.ch.b ∧ w.ch.b ≤ 255
  g : 0 ≤ w.ch.ses ∧ w.ch.ses ≤ 2147483647
  n : w.ns.length ≤ 255
  l : w.ls.length ≤ 65535
  ns : ∀ i (h : i < w.ns.length), 0 ≤ w.ns[i] ∧ w.ns[i] ≤ 255
  ls : ∀ i (h : i < w.ls.length), (0 ≤ w.ls[i].node ∧ w.ls[i].node ≤ 255) ∧ (0 ≤ w.ls[i].peer ∧ w.ls[i].peer ≤ 255) ∧ (0 ≤ w.ls[i].w ∧ w.ls[i].w ≤ 2147483647) ∧ (0 ≤ w.ls[i].ses ∧ w.ls[i].ses ≤ 2147483647)
theorem WP.Fits.inv {w n : Int} {ws ns : List Int} (h : Fits (w :: ws) (n :: ns)) : (0 ≤ n ∧ n ≤ topV w) ∧ Fits ws ns := by
  cases h with | cons a b c => exact ⟨b, c⟩
theorem WP.Fit.nums {w : Wd} (h : Fit w) : Nums w := by
  have t1 : topV 1 = 255 := rfl
  have t4 : topV 4 = 2147483647 := rfl
  obtain ⟨hd, hn, hl, hk⟩ := h
  obtain ⟨a, hd⟩ := hd.inv
  obtain ⟨b, hd⟩ := hd.inv
  obtain ⟨c, hd⟩ := hd.inv
  obtain ⟨d, hd⟩ := hd.inv
  obtain ⟨e, hd⟩ := hd.inv
  obtain ⟨f, hd⟩ := hd.inv
  obtain ⟨g, hd⟩ := hd.inv
  obtain ⟨i, hd⟩ := hd.inv
  rw [t1] at a c d e f i
  rw [t4] at b g
  refine ⟨a, b, c, d, e, f, g, by omega, by omega, fun i h => hn _ (List.getElem_mem _), fun i h => ?_⟩
  obtain ⟨a, hd⟩ := (hk _ (List.getElem_mem h)).inv
  obtain ⟨b, hd⟩ := hd.inv
  obtain ⟨c, hd⟩ := hd.inv
  obtain ⟨d, hd⟩ := hd.inv
  rw [t1] at a b
  rw [t4] at c d
  exact ⟨a, b, c, d⟩
theorem enc_len {w : Wd} (h : Nums w) : w.enc.length ≤ 1000000 := by
  have h1 : (flN w.ns).length ≤ w.ns.length * 4 := by
    unfold flN
    generalize w.ns = l
    induction l with
    | nil => simp
    | cons a l ih => rw [List.flatMap_cons, List.length_append, List.length_cons]; have := num_le a 1; omega
  have h2 : (flK w.ls).length ≤ w.ls.length * 11 := by
    unfold flK
    generalize w.ls = l
    induction l with
    | nil => simp
    | cons a l ih =>
      have : (encs KW a.nums).length = 11 := rfl
      rw [List.flatMap_cons, List.length_append, List.length_cons]; omega
  have h3 : (hd7 w).length = 14 := rfl
  have h4 := num_le w.ls.length 2
  rw [enc_eq]; simp only [List.length_append]
  have := h.n
  have := h.l
  omega
end Go.Proofs.Ytnkiocnnekgioaa
