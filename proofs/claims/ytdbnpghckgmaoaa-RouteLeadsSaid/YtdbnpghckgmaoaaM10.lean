/- texts of this claim, one behind the other: AbW, AbK, AbU, AbG, AbN, AbZ, AbH. -/
import Derived.Test.YtdbnpghckgmaoaaM9

/- Lists in memory that have room behind them, and what an append does to them, whatever the room. -/
namespace Go.Proofs.Ytdbnpghckgmaoaa.Ab
set_option linter.unusedVariables false
set_option linter.unusedSimpArgs false
set_option linter.unusedSectionVars false
open Go.RowKit

/-- A slice of n elements (of es cells each), the cells that it tells, in a block of its own. -/
inductive WAt (s : AHeap) (es : Nat) : Value → Option Nat → Nat → List Value → Prop
  | nil : WAt s es (.slice none 0 0) none 0 []
  | blk {o n c : Nat} {cs xs : List Value} (h : At s o (.cells true es cs)) (hn : n ≤ c) (hc : cs.length = c * es) (hx : cs.take (n * es) = xs) : WAt s es (.slice (some ⟨o, 0, none⟩) n c) (some o) n xs

theorem WAt.of_at {s s' : AHeap} {es : Nat} {v : Value} {on : Option Nat} {n : Nat} {xs : List Value} (h : WAt s es v on n xs) (hs : ∀ o, on = some o → s' o = s o) : WAt s' es v on n xs := by
  cases h with
  | nil => exact .nil
  | blk h a b c => exact .blk (by unfold At; rw [hs _ rfl]; exact h.eq) a b c
theorem WAt.len {s : AHeap} {es : Nat} {v : Value} {on : Option Nat} {n : Nat} {xs : List Value} (h : WAt s es v on n xs) : xs.length = n * es := by
  cases h with
  | nil => simp
  | @blk o n c cs xs h a b d =>
    rw [← d, List.length_take, b]
    have := Nat.mul_le_mul_right es a
    omega
theorem WAt.lt {s : AHeap} {es : Nat} {v : Value} {on : Option Nat} {n M : Nat} {xs : List Value} (h : WAt s es v on n xs) (hT : Top M s) : ∀ o, on = some o → o < M := by
  cases h with
  | nil => intro o e; cases e
  | blk h a b c => intro o e; obtain rfl := Option.some.inj e; exact hT.lt h
/-- The whole of a new block. -/
theorem WAt.new {s : AHeap} {es o n : Nat} {xs : List Value} (h : At s o (.cells true es xs)) (hl : xs.length = n * es) : WAt s es (.slice (some ⟨o, 0, none⟩) n n) (some o) n xs :=
  .blk h (Nat.le_refl _) hl (by rw [← hl, List.take_length])
theorem WAt.src {s : AHeap} {es : Nat} {v : Value} {on : Option Nat} {n : Nat} {xs : List Value} (h : WAt s es v on n xs) : Src s es v n xs := by
  cases h with
  | nil => exact Src.nil
  | @blk o n c cs xs h a b d =>
    by_cases hn : n = 0
    · subst hn; rw [Nat.zero_mul, List.take_zero] at d; subst d; exact Src.none
    · have := Nat.mul_le_mul_right es a
      exact Src.sl h hn (by omega) (by rw [List.drop_zero, d])

/-- What an append of m elements leaves: the slice, and the blocks that change. -/
def wapp (s : AHeap) (es m N : Nat) (xs ys : List Value) : Value → Value × List (Nat × ABlk)
  | .slice (some a) n c => match s a.block with
    | some (.cells _ _ cs) => if n + m ≤ c then (.slice (some a) (n + m) c, [(a.block, .cells true es (splice cs (n * es) ys))])
      else (.slice (some ⟨N, 0, none⟩) (n + m) (n + m), [(a.block, .dead), (N, .cells true es (xs ++ ys))])
    | _ => (.slice (some ⟨N, 0, none⟩) m m, [(N, .cells true es ys)])
  | _ => (.slice (some ⟨N, 0, none⟩) m m, [(N, .cells true es ys)])
theorem splice_take {cs ys : List Value} {k : Nat} (h : k + ys.length ≤ cs.length) : (splice cs k ys).take (k + ys.length) = cs.take k ++ ys := by
  induction ys generalizing cs k with
  | nil => simp [splice]
  | cons y ys ih =>
    rw [splice, List.length_cons, show k + (ys.length + 1) = (k + 1) + ys.length from by omega, ih (by rw [List.length_set]; simp only [List.length_cons] at h; omega)]
    have hk : k < cs.length := by simp only [List.length_cons] at h; omega
    rw [List.take_add_one, List.getElem?_set_self hk, List.take_set_of_le (Nat.le_refl _)]
    simp
theorem splice_all_pl {p : Value → Bool} {c l : List Value} {off : Nat} (hc : c.all p = true) (hl : l.all p = true) : (splice c off l).all p = true := by
  induction l generalizing c off with
  | nil => exact hc
  | cons v l ih =>
    simp only [List.all_cons, Bool.and_eq_true] at hl
    rw [splice]
    refine ih ?_ hl.2
    rw [List.all_eq_true] at hc ⊢
    intro x hx
    rcases List.mem_or_eq_of_mem_set hx with h | h
    · exact hc x h
    · rw [h]; exact hl.1
theorem updH_append (d : List (Nat × ABlk)) : ∀ (s : AHeap) (e : List (Nat × ABlk)), updH s (d ++ e) = updH (updH s d) e := by
  induction d with
  | nil => intro s e; rfl
  | cons p d ih => intro s e; obtain ⟨i, b⟩ := p; show updH (s.set i b) (d ++ e) = _; rw [ih]; rfl
theorem updH_snoc (d : List (Nat × ABlk)) (s : AHeap) (i : Nat) (b : ABlk) : updH s (d ++ [(i, b)]) = (updH s d).set i b := updH_append d s [(i, b)]
structure Wapp (P : Program) (t1 t2 : TypeId) (s : AHeap) (es m N : Nat) (xs ys : List Value) (v : Value) (on : Option Nat) (n : Nat) (v2 : Value) (d : List (Nat × ABlk)) : Prop where
  names : ∀ i ∈ d.map (·.1), on = some i ∨ i = N
  ats : ∀ s' : AHeap, ∀ p ∈ d, At (updH s' d) p.1 p.2
  pl : xs.all pl1 = true → ys.all pl1 = true → (∀ o cs, on = some o → At s o (.cells true es cs) → cs.all pl1 = true) → ∀ p ∈ d, (∃ cs, p.2 = .cells true es cs ∧ cs.all pl1 = true) ∨ p.2 = .dead
  at2 : ∀ s', (∀ i, on = some i → s' i = s i) → s' N = none → ∃ on2, WAt (updH s' d) es v2 on2 (n + m) (xs ++ ys) ∧ (on2 = on ∨ on2 = some N)
  op : ∀ {s' : AHeap} {tm : Env} {x y : Operand} {vy : Value} {dd : Option Tmp} {t : TypeId} {p : String} {af : Array Edge} {gd : Option (Nat × Bool)} {K : Value → AHeap → Prop}, (∀ i, on = some i → s' i = s i) → s' N = none →
    Ev tm x v → Ev tm y vy → Src s' es vy m ys → K v2 (updH s' d) → AOp P ⟨dd, .call ⟨.builtin .append, #[x, y], #[t1, t2]⟩, t, p, af, gd⟩ tm s' K
theorem WAt.app {P : Program} {t1 t2 e : TypeId} {s1 b1 : Nat} {z1 : Value} {ke : TK} {es eb : Nat} {ez : Value} {k2 : TK} {s2 b2 : Nat} {z2 : Value} [h1 : HasTD P t1 ⟨.slice e, s1, b1, z1⟩] [he : HasTD P e ⟨ke, es, eb, ez⟩] [h2 : HasTD P t2 ⟨k2, s2, b2, z2⟩]
    {s : AHeap} {v : Value} {on : Option Nat} {n m N : Nat} {xs ys : List Value} (h : WAt s es v on n xs) (hk : srcOk k2 = true) (hm : m ≠ 0) (hl : ys.length = m * es) (hz : ez.cells.size = es ∧ eb ≠ 0) (hb : (n + m) * eb ≤ 140737488355328) (hN : ∀ o, on = some o → o ≠ N) :
    ∃ v2 d, Wapp P t1 t2 s es m N xs ys v on n v2 d := by
  cases h with
  | nil =>
    refine ⟨.slice (some ⟨N, 0, none⟩) m m, [(N, .cells true es ys)], by simp, fun s' p hp => by rw [List.mem_singleton.1 hp]; exact At.hit, fun _ h _ p hp => by rw [List.mem_singleton.1 hp]; exact .inl ⟨_, rfl, h⟩, fun s' _ hf => ⟨some N, ?_, .inr rfl⟩, fun _ hf hx hy hs hK => ?_⟩
    · have : WAt (s'.set N (.cells true es ys)) es (.slice (some ⟨N, 0, none⟩) m m) (some N) m ys := WAt.new At.hit hl
      simpa [updH] using this
    · exact O.appendNil N hx hy hs hk hm hl hz (by rw [Nat.zero_add] at hb; exact hb) hf hK
  | @blk o n c cs xs ha hnc hc hx =>
    have hne := hN o rfl
    by_cases hr : n + m ≤ c
    · have hle := Nat.mul_le_mul_right es hr
      rw [Nat.add_mul] at hle
      refine ⟨.slice (some ⟨o, 0, none⟩) (n + m) c, [(o, .cells true es (splice cs (n * es) ys))], by simp, fun s' p hp => by rw [List.mem_singleton.1 hp]; exact At.hit, fun _ h hcs p hp => by rw [List.mem_singleton.1 hp]; exact .inl ⟨_, rfl, splice_all_pl (hcs o cs rfl ha) h⟩, fun s' hs' hf => ⟨some o, ?_, .inl rfl⟩, fun hs' hf hx hy hs hK => ?_⟩
      · refine WAt.blk (cs := splice cs (n * es) ys) (by show At (s'.set o _) o _; exact At.hit) hr (by rw [splice_length]; exact hc) ?_
        rw [← hx, Nat.add_mul, ← hl, splice_take (by omega)]
      · refine O.appendRoom hx hy hs (cs := cs) (by unfold At; rw [hs' o rfl]; exact ha.eq) hk hm hr hl (by rw [Nat.add_mul]; omega) ?_
        rw [Nat.zero_add]; exact hK
    · have hle := Nat.mul_le_mul_right es hnc
      refine ⟨.slice (some ⟨N, 0, none⟩) (n + m) (n + m), [(o, .dead), (N, .cells true es (xs ++ ys))], by simp, fun s' p hp => (by
        rcases List.mem_cons.1 hp with e | e
        · rw [e]; exact At.miss hne At.hit
        · rw [List.mem_singleton.1 e]; exact At.hit), fun h h' _ p hp => (by
        rcases List.mem_cons.1 hp with e | e
        · rw [e]; exact .inr rfl
        · rw [List.mem_singleton.1 e]; exact .inl ⟨_, rfl, by rw [List.all_append, h, h']; rfl⟩), fun s' hs' hf => ⟨some N, ?_, .inr rfl⟩, fun hs' hf hx' hy hs hK => ?_⟩
      · refine WAt.new (by show At ((s'.set o _).set N _) N _; exact At.hit) ?_
        rw [List.length_append, hl, ← hx, List.length_take, hc, Nat.add_mul, Nat.min_eq_left hle]
      · exact O.appendMove N hx' hy hs (cs := cs) (by unfold At; rw [hs' o rfl]; exact ha.eq) hk hm hr hl hz hb hf (by omega) (by rw [List.drop_zero]; exact hx) hK

theorem Keeps.fr {s s1 : AHeap} {v : Value} (h : Fr s1 s []) (hv : nmR (fun i => (s i).isSome = true) v) : Keeps s s1 s v := Keeps.same (fun i b hb => h i (by simp) b hb) hv
theorem plB.nm {D : Nat → Prop} {x : Value} (h : plB x = true) : nmB D x := by
  cases x with
  | agg cs => simp only [plB, List.all_eq_true] at h; exact fun x hx => pl1.nm (h x hx)
  | _ => (simp only [nmB]; exact pl1.nm h)
theorem plR.nm {D : Nat → Prop} {x : Value} (h : plR x = true) : nmR D x := by
  cases x with
  | tuple cs => simp only [plR, List.all_eq_true] at h; exact fun x hx => plB.nm (h x hx)
  | _ => (simp only [nmR]; exact plB.nm h)
/-- All of 's' is there yet, and what changed or is new speaks of names that are there. -/
structure Ext (s1 s : AHeap) : Prop where
  dom : ∀ id, (s id).isSome = true → (s1 id).isSome = true
  cl : ∀ id b, s1 id = some b → s id = some b ∨ b.nm fun i => (s1 i).isSome = true
theorem Ext.refl (s : AHeap) : Ext s s := ⟨fun _ h => h, fun _ _ h => .inl h⟩
theorem Ext.trans {a b c : AHeap} (h : Ext a b) (h2 : Ext b c) : Ext a c :=
  ⟨fun i hi => h.dom i (h2.dom i hi), fun i x hx => (h.cl i x hx).elim (fun e => (h2.cl i x e).imp id fun e => ABlk.nm_imp (fun k hk => h.dom k hk) e) .inr⟩
theorem Ext.set {s1 s : AHeap} {id : Nat} {b : ABlk} (h : Ext s1 s) (hb : b.nm fun i => (s1 i).isSome = true ∨ i = id) : Ext (s1.set id b) s := by
  have hd : ∀ i, (s1 i).isSome = true ∨ i = id → ((s1.set id b) i).isSome = true := fun i hi => by
    by_cases e : i = id
    · subst e; rw [AHeap.set_same]; rfl
    · rw [AHeap.set_other _ _ e]; exact hi.resolve_right e
  refine ⟨fun i hi => hd i (.inl (h.dom i hi)), fun i c hc => ?_⟩
  by_cases e : i = id
  · subst e; rw [AHeap.set_same] at hc; obtain rfl := Option.some.inj hc; exact .inr (ABlk.nm_imp hd hb)
  · rw [AHeap.set_other _ _ e] at hc; exact (h.cl i c hc).imp _root_.id fun e => ABlk.nm_imp (fun k hk => hd k (.inl hk)) e
theorem Ext.upd : ∀ (d : List (Nat × ABlk)) {s1 s : AHeap}, Ext s1 s → (∀ p ∈ d, p.2.nm fun i => (s1 i).isSome = true) → Ext (updH s1 d) s
  | [], _, _, h, _ => h
  | (id, b) :: d, s1, s, h, hd => by
    refine Ext.upd d (s1 := s1.set id b) (h.set (ABlk.nm_imp (fun _ => .inl) (hd _ (List.mem_cons_self ..)))) (fun p hp => ABlk.nm_imp (fun i hi => ?_) (hd p (List.mem_cons_of_mem _ hp)))
    by_cases e : i = id
    · subst e; rw [AHeap.set_same]; rfl
    · rw [AHeap.set_other _ _ e]; exact hi
theorem Keeps.ext {s s1 : AHeap} {v : Value} (h : Ext s1 s) (hv : nmR (fun i => (s1 i).isSome = true) v) : Keeps s s1 s1 v := ⟨fun _ _ h => h, h.dom, h.cl, hv⟩
/-! structs in memory, told whole -/
def plOf (P : Program) (t : TypeId) : Option (List (Nat × Nat)) := match tdOf P t with
  | some td => match td.k with
    | .struct fs => fldPlaces P fs
    | _ => none
  | none => none
class HasPl (P : Program) (t : TypeId) (pl : outParam (List (Nat × Nat))) : Prop where
  is : plOf P t = some pl
namespace O
section
variable {P : Program} {tm : Env} {s : AHeap} {K : Value → AHeap → Prop} {d : Option Tmp} {t : TypeId} {p : String} {af : Array Edge} {gd : Option (Nat × Bool)}
theorem boxA (id : Nat) {x : Operand} {e : TypeId} {l : List Value} (hx : Ev tm x (.agg l.toArray)) (hid : Free s id) (h : K (.pointer (some ⟨id, 0, none⟩)) (s.set id (.cells true 1 l))) :
    AOp P ⟨d, .box e x, t, p, af, gd⟩ tm s K := box id hx hid rfl h
theorem box1 (id : Nat) {x : Operand} {e : TypeId} {v : Value} (hx : Ev tm x v) (hid : Free s id) (hv : v.cells = #[v]) (hn : notTup v = true) (h : K (.pointer (some ⟨id, 0, none⟩)) (s.set id (.cells true 1 [v]))) :
    AOp P ⟨d, .box e x, t, p, af, gd⟩ tm s K := box id hx hid hn (by rw [hv]; exact h)
theorem allocA (id : Nat) {e : TypeId} {k : TK} {sz by_ : Nat} {l : List Value} [h1 : HasTD P e ⟨k, sz, by_, .agg l.toArray⟩] (hid : Free s id) (hp : l.all pl1 = true) (h : K (.pointer (some ⟨id, 0, none⟩)) (s.set id (.cells true 1 l))) :
    AOp P ⟨d, .alloc e, t, p, af, gd⟩ tm s K := alloc (td := ⟨k, sz, by_, .agg l.toArray⟩) id hid hp h
theorem alloc1 (id : Nat) {e : TypeId} {k : TK} {sz by_ : Nat} {z : Value} [h1 : HasTD P e ⟨k, sz, by_, z⟩] (hid : Free s id) (hp : plA z = true) (h : K (.pointer (some ⟨id, 0, none⟩)) (s.set id (.cells true 1 [z]))) :
    AOp P ⟨d, .alloc e, t, p, af, gd⟩ tm s K := by
  have hc : z.cells = #[z] := by unfold plA at hp; split at hp <;> first | rfl | cases hp
  have hb : plB z = true := by unfold plA at hp; split at hp <;> first | rfl | cases hp
  exact alloc (td := ⟨k, sz, by_, z⟩) id hid hb (by show K _ (s.set id (.cells true 1 z.cells.toList)); rw [hc]; exact h)
theorem loadAll {x : Operand} {xt : TypeId} {td : TD} [h1 : HasTD P xt td] {id sz : Nat} {rw : Bool} {c : List Value} (ha : td.agg = true) (hx : Ev tm x (.pointer (some ⟨id, 0, none⟩))) (hs : At s id (.cells rw sz c))
    (hl : c.length = td.size) (h : K (.agg c.toArray) s) : AOp P ⟨d, .load xt x, t, p, af, gd⟩ tm s K :=
  loadAgg hx hs ha (by rw [hl]; omega) (by rw [List.drop_zero, ← hl, List.take_length]) h
theorem splice_set {c l : List Value} {off : Nat} (h : off + l.length ≤ c.length) : splice c off l = c.take off ++ l ++ c.drop (off + l.length) := by
  induction l generalizing c off with
  | nil => simp [splice]
  | cons v l ih =>
    rw [splice, ih (by rw [List.length_set]; simp only [List.length_cons] at h; omega)]
    have hk : off < c.length := by simp only [List.length_cons] at h; omega
    rw [List.take_add_one, List.getElem?_set_self hk, List.take_set_of_le (Nat.le_refl _), List.drop_set_of_lt (by omega)]
    simp [Nat.add_assoc, Nat.add_comm 1]
theorem splice_all {c l : List Value} (h : l.length = c.length) : splice c 0 l = l := by
  rw [splice_set (by omega), List.take_zero, List.nil_append, Nat.zero_add, h, List.drop_length, List.append_nil]
theorem storeAll {x y : Operand} {xt : TypeId} {td : TD} [h1 : HasTD P xt td] {id sz : Nat} {c l : List Value} (hz : td.agg = true) (hx : Ev tm x (.pointer (some ⟨id, 0, none⟩))) (hy : Ev tm y (.agg l.toArray)) (hs : At s id (.cells true sz c)) (hl : l.length = td.size)
    (hc : c.length = td.size) (h : K undef (s.set id (.cells true sz l))) : AOp P ⟨d, .store xt x y, t, p, af, gd⟩ tm s K :=
  storeAgg hx hy hs hl (by omega) (by rw [splice_all (by omega)]; exact h)
/-- A store whose outcome is spelled out. -/
theorem storeAggN {x y : Operand} {xt : TypeId} {td : TD} [h1 : HasTD P xt td] {id off sz : Nat} {c l c' : List Value} (hz : td.agg = true) (hx : Ev tm x (.pointer (some ⟨id, off, none⟩))) (hy : Ev tm y (.agg l.toArray)) (hs : At s id (.cells true sz c)) (hl : l.length = td.size)
    (ho : Lt (off + td.size) (c.length + 1)) (hc : splice c off l = c') (h : K undef (s.set id (.cells true sz c'))) : AOp P ⟨d, .store xt x y, t, p, af, gd⟩ tm s K :=
  storeAgg hx hy hs hl (by unfold Lt at ho; omega) (by rw [hc]; exact h)
theorem storeN {x y : Operand} {xt : TypeId} {td : TD} [h1 : HasTD P xt td] {id off sz : Nat} {c c' : List Value} {v : Value} (hz : td.size = 1) (hx : Ev tm x (.pointer (some ⟨id, off, none⟩))) (hy : Ev tm y v) (hs : At s id (.cells true sz c)) (hv : v.cells = #[v])
    (hn : notTup v = true) (ho : Lt off c.length) (hc : c.set off v = c') (h : K undef (s.set id (.cells true sz c'))) : AOp P ⟨d, .store xt x y, t, p, af, gd⟩ tm s K := by
  subst hc; exact storeG hz hx hy hs hv hn ho h
theorem loadAggN {x : Operand} {xt : TypeId} {td : TD} [h1 : HasTD P xt td] {id off sz : Nat} {rw : Bool} {c l : List Value} (ha : td.agg = true) (hx : Ev tm x (.pointer (some ⟨id, off, none⟩))) (hs : At s id (.cells rw sz c))
    (ho : Lt (off + td.size) (c.length + 1)) (hl : (c.drop off).take td.size = l) (h : K (.agg l.toArray) s) : AOp P ⟨d, .load xt x, t, p, af, gd⟩ tm s K := loadAgg hx hs ha (by unfold Lt at ho; omega) hl h
theorem maxG {x y : Operand} {ts : Array TypeId} {k k' : IntKind} {a b : Int} (hx : Ev tm x (.int k a)) (hy : Ev tm y (.int k' b)) (h : GK (decide (b > a)) true (K (.int k b) s) (K (.int k a) s)) :
    AOp P ⟨d, .call ⟨.builtin .max, #[x, y], ts⟩, t, p, af, gd⟩ tm s K := max2 hx hy (by
  unfold GK at h
  by_cases e : b > a
  · rw [if_pos e]; exact h.1 (decide_eq_true e)
  · rw [if_neg e]; exact h.2 (decide_eq_false e))
theorem minG {x y : Operand} {ts : Array TypeId} {k k' : IntKind} {a b : Int} (hx : Ev tm x (.int k a)) (hy : Ev tm y (.int k' b)) (h : GK (decide (b < a)) true (K (.int k b) s) (K (.int k a) s)) :
    AOp P ⟨d, .call ⟨.builtin .min, #[x, y], ts⟩, t, p, af, gd⟩ tm s K := min2 hx hy (by
  unfold GK at h
  by_cases e : b < a
  · rw [if_pos e]; exact h.1 (decide_eq_true e)
  · rw [if_neg e]; exact h.2 (decide_eq_false e))
theorem remG {x y : Operand} {ty : TypeId} {xt : TypeId} {kk : IntKind} {sz by_ : Nat} {z : Value} [_h1 : HasTD P xt ⟨.int kk, sz, by_, z⟩] {k : IntKind} {a b : Int} (hx : Ev tm x (.int k a)) (hy : Ev tm y (.int k b)) (hb : Rg (b ≠ 0)) (h : K (.int k (a.tmod b)) s) :
    AOp P ⟨d, .binOp .rem xt x y ty, t, p, af, gd⟩ tm s K := int hx hy (by unfold Rg at hb; simp only [aint]; rw [if_pos ⟨trivial, hb⟩]) h
theorem remK {x y : Operand} {ty : TypeId} {xt : TypeId} {k : IntKind} {a b r : Int} (hr : a.tmod b = r) (hx : Ev tm x (.int k a)) (hy : Ev tm y (.int k b)) (hb : Rg (b ≠ 0)) (h : K (.int k r) s) :
    AOp P ⟨d, .binOp .rem xt x y ty, t, p, af, gd⟩ tm s K := int hx hy (by unfold Rg at hb; simp only [aint]; rw [if_pos ⟨trivial, hb⟩, hr]) h
/-! parts of slices -/
section
variable {xt e : TypeId} {sz by_ eb es : Nat} {z z1 : Value} {ke : TK} {x lo hi mx : Operand} {id off n c : Nat} {sp : Option Nat} {rw : Bool} {cs : List Value} {l h m : Int} {k1 k2 k3 : IntKind}
theorem sliceLH [h1 : HasTD P xt ⟨.slice e, sz, by_, z⟩] [h2 : HasTD P e ⟨ke, es, eb, z1⟩] (hx : Ev tm x (.slice (some ⟨id, off, sp⟩) n c)) (hs : At s id (.cells rw es cs)) (e1 : Ev tm lo (.int k1 l)) (e2 : Ev tm hi (.int k2 h)) (hr : Rg (0 ≤ l ∧ l ≤ h ∧ h ≤ c))
    (hk : K (.slice (some ⟨id, off + l.toNat * es, sp⟩) (h.toNat - l.toNat) (c - l.toNat)) s) : AOp P ⟨d, .slice xt x (some lo) (some hi) none, t, p, af, gd⟩ tm s K := by
  unfold Rg at hr; unfold At at hs
  refine slice hx (.some e1) (.some e2) .none ?_ hk
  simp only [aslice, h1.is, h2.is, hs, bnd, if_pos hr.1, if_pos (show 0 ≤ h by omega)]
  rw [if_pos ⟨trivial, by omega, by omega, by omega, rfl⟩]; rfl
theorem sliceL [h1 : HasTD P xt ⟨.slice e, sz, by_, z⟩] [h2 : HasTD P e ⟨ke, es, eb, z1⟩] (hx : Ev tm x (.slice (some ⟨id, off, sp⟩) n c)) (hs : At s id (.cells rw es cs)) (e1 : Ev tm lo (.int k1 l)) (hr : Rg (0 ≤ l ∧ l ≤ n ∧ n ≤ c))
    (hk : K (.slice (some ⟨id, off + l.toNat * es, sp⟩) (n - l.toNat) (c - l.toNat)) s) : AOp P ⟨d, .slice xt x (some lo) none none, t, p, af, gd⟩ tm s K := by
  unfold Rg at hr; unfold At at hs
  refine slice hx (.some e1) .none .none ?_ hk
  simp only [aslice, h1.is, h2.is, hs, bnd, if_pos hr.1]
  rw [if_pos ⟨trivial, by omega, by omega, by omega, rfl⟩]; rfl
theorem sliceH [h1 : HasTD P xt ⟨.slice e, sz, by_, z⟩] [h2 : HasTD P e ⟨ke, es, eb, z1⟩] (hx : Ev tm x (.slice (some ⟨id, off, sp⟩) n c)) (hs : At s id (.cells rw es cs)) (e2 : Ev tm hi (.int k2 h)) (hr : Rg (0 ≤ h ∧ h ≤ c))
    (hk : K (.slice (some ⟨id, off, sp⟩) h.toNat c) s) : AOp P ⟨d, .slice xt x none (some hi) none, t, p, af, gd⟩ tm s K := by
  unfold Rg at hr; unfold At at hs
  refine slice hx .none (.some e2) .none ?_ hk
  simp only [aslice, h1.is, h2.is, hs, bnd, if_pos hr.1]
  rw [if_pos ⟨trivial, by omega, by omega, by omega, rfl⟩, Nat.zero_mul, Nat.add_zero, Nat.sub_zero, Nat.sub_zero]; rfl
theorem sliceLHM [h1 : HasTD P xt ⟨.slice e, sz, by_, z⟩] [h2 : HasTD P e ⟨ke, es, eb, z1⟩] (hx : Ev tm x (.slice (some ⟨id, off, sp⟩) n c)) (hs : At s id (.cells rw es cs)) (e1 : Ev tm lo (.int k1 l)) (e2 : Ev tm hi (.int k2 h)) (e3 : Ev tm mx (.int k3 m)) (hr : Rg (0 ≤ l ∧ l ≤ h ∧ h ≤ m ∧ m ≤ c))
    (hk : K (.slice (some ⟨id, off + l.toNat * es, some 0⟩) (h.toNat - l.toNat) (m.toNat - l.toNat)) s) : AOp P ⟨d, .slice xt x (some lo) (some hi) (some mx), t, p, af, gd⟩ tm s K := by
  unfold Rg at hr; unfold At at hs
  refine slice hx (.some e1) (.some e2) (.some e3) ?_ hk
  simp only [aslice, h1.is, h2.is, hs, bnd, if_pos hr.1, if_pos (show 0 ≤ h by omega), if_pos (show 0 ≤ m by omega)]
  rw [if_pos ⟨trivial, by omega, by omega, by omega, rfl⟩]; rfl
theorem clear0 [h1 : HasTD P xt ⟨.slice e, sz, by_, z⟩] {a : Addr} (hx : Ev tm x (.slice (some a) 0 c)) (hk : K undef s) : AOp P ⟨d, .call ⟨.builtin .clear, #[x], #[xt]⟩, t, p, af, gd⟩ tm s K :=
  ⟨s, by rw [hx.eq]; simp only [aclear, h1.is, if_true], hk⟩
theorem clearG [h1 : HasTD P xt ⟨.slice e, sz, by_, z⟩] [h2 : HasTD P e ⟨ke, es, eb, z1⟩] (hx : Ev tm x (.slice (some ⟨id, off, sp⟩) n c)) (hs : At s id (.cells true es cs)) (hn : Rg (n ≠ 0)) (hb : Lt (off + n * es) (cs.length + 1)) (hz : z1.cells.size = es ∧ plB z1 = true)
    (hk : K undef (s.set id (.cells true es (splice cs off (zrep n z1.cells.toList))))) : AOp P ⟨d, .call ⟨.builtin .clear, #[x], #[xt]⟩, t, p, af, gd⟩ tm s K := by
  unfold Rg at hn; unfold Lt at hb; unfold At at hs
  refine ⟨_, ?_, hk⟩
  rw [hx.eq]
  simp only [aclear, h1.is, h2.is, hs, if_neg hn]
  rw [if_pos ⟨trivial, hz.1, by omega, hz.2⟩]
end
/-- Aggregates put together, spelled out. -/
theorem buildS {xt : TypeId} {parts : Array (Nat × Operand)} {l : List (Nat × Value)} {fs : List (Nat × TypeId)} {sz by_ : Nat} {z c0 c : List Value} {pl : List (Nat × Nat)} [h1 : HasTD P xt ⟨.struct fs, sz, by_, .agg z.toArray⟩] [h2 : HasPl P xt pl] (hp : EvP tm parts.toList l) (hz : z.all pl1 = true)
    (hc : afill (fun i => pl[i]?) z l = some c0) (hn : c0 = c) (h : K (.agg c.toArray) s) : AOp P ⟨d, .build xt parts, t, p, af, gd⟩ tm s K := by
  subst hn
  refine build hp (v := .agg c0.toArray) ?_ h
  have h3 := h2.is
  unfold plOf at h3
  rw [h1.is] at h3
  simp only at h3
  unfold abuild
  rw [h1.is]
  simp only [h3]
  rw [if_pos (by simpa [plB] using hz)]
  show (afill (fun i => pl[i]?) z l).map _ = _
  rw [hc]; rfl
theorem buildR {xt e : TypeId} {parts : Array (Nat × Operand)} {l : List (Nat × Value)} {n sz by_ : Nat} {z c0 c : List Value} {te : TD} [h1 : HasTD P xt ⟨.array n e, sz, by_, .agg z.toArray⟩] [h2 : HasTD P e te] (hp : EvP tm parts.toList l) (hz : z.all pl1 = true)
    (hc : afill (fun i => some (i * te.size, te.size)) z l = some c0) (hn : c0 = c) (h : K (.agg c.toArray) s) : AOp P ⟨d, .build xt parts, t, p, af, gd⟩ tm s K := by
  subst hn
  refine build hp (v := .agg c0.toArray) ?_ h
  unfold abuild
  rw [h1.is]
  simp only [h2.is]
  rw [if_pos (by simpa [plB] using hz)]
  show (afill (fun i => some (i * te.size, te.size)) z l).map _ = _
  rw [hc]; rfl
/-- A slice of one struct. -/
theorem build1A (id : Nat) {xt e : TypeId} {sz by_ eb es : Nat} {z z1 : Value} {l : List Value} {ke : TK} {x : Operand} [h1 : HasTD P xt ⟨.slice e, sz, by_, z⟩] [h2 : HasTD P e ⟨ke, es, eb, z1⟩] (hx : Ev tm x (.agg l.toArray)) (hl : l.length = es) (hz : z1.cells.size = es ∧ plB z1 = true) (hes : es ≤ 16777216) (hid : Free s id)
    (h : K (.slice (some ⟨id, 0, none⟩) 1 1) (s.set id (.cells true es l))) : AOp P ⟨d, .buildSlice xt 1 #[(0, x)], t, p, af, gd⟩ tm s K := by
  refine buildSlice id (te := ⟨ke, es, eb, z1⟩) (l := [(0, .agg l.toArray)]) (c := l) ?_ hid ⟨hz.1, by show 1 * es ≤ _; omega, hz.2⟩ ?_ h
  · exact EvP.cons hx EvP.nil
  · have hzl : (zrep 1 z1.cells.toList).length = es := by rw [zrep_length, Array.length_toList, hz.1, Nat.one_mul]
    simp only [afill]
    rw [if_pos ⟨by show (Value.agg l.toArray).cells.size = es; simpa [Value.cells] using hl, by rw [hzl]; omega, rfl⟩]
    congr 1
    show splice _ (0 * es) l = l
    rw [Nat.zero_mul]
    exact splice_all (by rw [hzl, hl])
end
end O

theorem EvR.cellA {P : Program} {tm : Env} {s : AHeap} {r : List ResultVar} {l : List Value} {a : Tmp} {t : TypeId} {id sz : Nat} {rw : Bool} {c : List Value} {td : TD} [h1 : HasTD P t td] (ha : td.agg = true) (h : Ev tm (.tmp a) (.pointer (some ⟨id, 0, none⟩)))
    (hs : At s id (.cells rw sz c)) (hl : c.length = td.size) (rest : EvR P tm s r l) : EvR P tm s (.cell a t :: r) (.agg c.toArray :: l) :=
  .cell h (by unfold At at hs; simp only [aload, h1.is, hs, ha, if_true]; rw [if_pos (by omega), List.drop_zero, ← hl, List.take_length]) rest
theorem EvR.cell1 {P : Program} {tm : Env} {s : AHeap} {r : List ResultVar} {l : List Value} {a : Tmp} {t : TypeId} {id sz : Nat} {rw : Bool} {v : Value} {c : List Value} {td : TD} [h1 : HasTD P t td] (ha : td.agg = false) (h : Ev tm (.tmp a) (.pointer (some ⟨id, 0, none⟩)))
    (hs : At s id (.cells rw sz (v :: c))) (rest : EvR P tm s r l) : EvR P tm s (.cell a t :: r) (v :: l) :=
  .cell h (by unfold At at hs; simp [aload, h1.is, hs, ha]) rest
theorem D.upd {P : Program} {ops : Array Oper} {C : List (List Nat)} {W : List (Nat × List Nat)} {tm : Env} {s : AHeap} {K : Env → AHeap → Prop} {i : Nat} {o : Op} {r : List Oper} {dd : Option Tmp} {t : TypeId} {p : String} {af : Array Edge} {v : Value}
    (d : List (Nat × ABlk)) (hw : ∀ id ∈ d.map (·.1), id ∈ own W i)
    (h : ∀ t', AgreeOff (others C W i) t' s → AOp P ⟨dd, o, t, p, af, none⟩ tm t' fun v' t'' => v' = v ∧ t'' = updH t' d) (hr : AOpsD P ops C W (i + 1) r (put tm dd v) (updH s d) K) : AOpsD P ops C W i (⟨dd, o, t, p, af, none⟩ :: r) tm s K :=
  AOpsD.write v d trivial hw h hr
/-- An operation that waits for all that write, or that they wait for. -/
theorem D.q0t {P : Program} {ops : Array Oper} {C : List (List Nat)} {W : List (Nat × List Nat)} {tm : Env} {s : AHeap} {K : Env → AHeap → Prop} {i : Nat} {o : Op} {r : List Oper} {d : Option Tmp} {t : TypeId} {p : String} {af : Array Edge} {v : Value}
    (hw : own W i = []) (hot : others C W i = []) (h : AOp P ⟨d, o, t, p, af, none⟩ tm s fun v' t'' => v' = v ∧ t'' = s) (hr : AOpsD P ops C W (i + 1) r (put tm d v) s K) : AOpsD P ops C W i (⟨d, o, t, p, af, none⟩ :: r) tm s K := by
  refine AOpsD.quiet v trivial (fun t' ha => ?_) hr
  have : t' = s := by funext i; exact ha i (by rw [hot]; simp)
  subst this; exact h
theorem D.w1t {P : Program} {ops : Array Oper} {C : List (List Nat)} {W : List (Nat × List Nat)} {tm : Env} {s : AHeap} {K : Env → AHeap → Prop} {i : Nat} {o : Op} {r : List Oper} {d : Option Tmp} {t : TypeId} {p : String} {af : Array Edge} {v : Value}
    {id : Nat} {b : ABlk} (hw : own W i = [id]) (hot : others C W i = []) (h : AOp P ⟨d, o, t, p, af, none⟩ tm s fun v' t'' => v' = v ∧ t'' = s.set id b) (hr : AOpsD P ops C W (i + 1) r (put tm d v) (s.set id b) K) : AOpsD P ops C W i (⟨d, o, t, p, af, none⟩ :: r) tm s K := by
  refine AOpsD.write v [(id, b)] trivial (by rw [hw]; simp) (fun t' ha => ?_) hr
  have : t' = s := by funext i; exact ha i (by rw [hot]; simp)
  subst this; exact h
theorem D.sett {P : Program} {ops : Array Oper} {C : List (List Nat)} {W : List (Nat × List Nat)} {tm : Env} {s : AHeap} {K : Env → AHeap → Prop} {i : Nat} {o : Op} {r : List Oper} {d : Option Tmp} {t : TypeId} {p : String} {af : Array Edge} {v : Value}
    {id : Nat} {b : ABlk} (hw : (own W i).contains id = true) (hot : others C W i = []) (h : AOp P ⟨d, o, t, p, af, none⟩ tm s fun v' t'' => v' = v ∧ t'' = s.set id b) (hr : AOpsD P ops C W (i + 1) r (put tm d v) (s.set id b) K) : AOpsD P ops C W i (⟨d, o, t, p, af, none⟩ :: r) tm s K := by
  refine AOpsD.write v [(id, b)] trivial (by simpa using hw) (fun t' ha => ?_) hr
  have : t' = s := by funext i; exact ha i (by rw [hot]; simp)
  subst this; exact h
/-- An append in a drawing region: what is known of the memory behind it. -/
theorem D.anyk {P : Program} {ops : Array Oper} {C : List (List Nat)} {W : List (Nat × List Nat)} {tm : Env} {s : AHeap} {K : Env → AHeap → Prop} {i : Nat} {o : Op} {r : List Oper} {dd : Option Tmp} {t : TypeId} {p : String} {af : Array Edge} {v : Value}
    (d : List (Nat × ABlk)) (M : AHeap → Prop) (hw : ∀ id ∈ d.map (·.1), id ∈ own W i) (hot : others C W i = [])
    (h : AOp P ⟨dd, o, t, p, af, none⟩ tm s fun v' t'' => v' = v ∧ t'' = updH s d) (hM : M (updH s d)) (hr : ∀ s3, M s3 → AOpsD P ops C W (i + 1) r (put tm dd v) s3 K) : AOpsD P ops C W i (⟨dd, o, t, p, af, none⟩ :: r) tm s K := by
  refine AOpsD.write v d trivial hw (fun t' ha => ?_) (hr _ hM)
  have : t' = s := by funext i; exact ha i (by rw [hot]; simp)
  subst this; exact h
theorem AllAt.of {s1 s' : AHeap} : ∀ {d : List (Nat × ABlk)}, (∀ p ∈ d, At s1 p.1 p.2 ∧ p.2.nm fun i => (s' i).isSome = true) → AllAt s1 s' d
  | [], _ => trivial
  | p :: d, h => ⟨h p (by simp), AllAt.of fun q hq => h q (by simp [hq])⟩
theorem pl_nm {d : List (Nat × ABlk)} {es : Nat} (h : ∀ p ∈ d, (∃ cs, p.2 = .cells true es cs ∧ cs.all pl1 = true) ∨ p.2 = .dead) : ∀ (D : Nat → Prop), ∀ p ∈ d, p.2.nm D := fun D p hp => by
  rcases h p hp with ⟨cs, e, hc⟩ | e
  · rw [e]; exact nm_scal hc
  · rw [e]; trivial
theorem pl_at {s : AHeap} {d : List (Nat × ABlk)} {es : Nat} (h : ∀ p ∈ d, (∃ cs, p.2 = .cells true es cs ∧ cs.all pl1 = true) ∨ p.2 = .dead) {o : Nat} {cs : List Value} (ha : At (updH s d) o (.cells true es cs)) (hs : At s o (.cells true es cs) → cs.all pl1 = true) : cs.all pl1 = true := by
  by_cases hd : o ∈ d.map (·.1)
  · obtain ⟨b, h1, h2⟩ := updH_get (s := s) hd
    have := ha.eq; rw [h2] at this
    obtain rfl := Option.some.inj this
    rcases h _ h1 with ⟨cs', e, hc⟩ | e
    · simp only at e; injection e with _ _ e; rw [e]; exact hc
    · cases e
  · unfold At at ha; rw [updH_out hd] at ha; exact hs ha
theorem WAt.nm {s : AHeap} {es : Nat} {v : Value} {on : Option Nat} {n : Nat} {xs : List Value} {D : Nat → Prop} (h : WAt s es v on n xs) (hD : ∀ o, on = some o → D o) : nm1 D v := by
  cases h with
  | nil => trivial
  | blk h a b c => exact hD _ rfl
theorem WAt.val {s : AHeap} {es : Nat} {v : Value} {on : Option Nat} {n : Nat} {xs : List Value} (h : WAt s es v on n xs) : v.cells = #[v] ∧ notTup v = true := by
  cases h <;> exact ⟨rfl, rfl⟩
theorem WAt.some {s : AHeap} {es : Nat} {v : Value} {on : Option Nat} {n : Nat} {xs : List Value} (h : WAt s es v on n xs) : ∀ o, on = Option.some o → (s o).isSome = true := by
  cases h with
  | nil => intro o e; cases e
  | blk h a b c => intro o e; obtain rfl := Option.some.inj e; rw [h.eq]; rfl
theorem At.upd {s : AHeap} {d : List (Nat × ABlk)} {i : Nat} {b : ABlk} (h : At s i b) (hi : i ∉ d.map (·.1)) : At (updH s d) i b := by unfold At at *; rw [updH_out hi]; exact h
theorem Fr.upd {s1 s : AHeap} {ids : List Nat} {d : List (Nat × ABlk)} (h : Fr s1 s ids) (hd : ∀ i ∈ d.map (·.1), i ∈ ids ∨ s i = none) : Fr (updH s1 d) s ids := fun i hi c hc => by
  rw [updH_out (fun hm => (hd i hm).elim hi (fun e => by rw [e] at hc; cases hc))]; exact h i hi c hc
theorem D.set2 {P : Program} {ops : Array Oper} {C : List (List Nat)} {W : List (Nat × List Nat)} {tm : Env} {s : AHeap} {K : Env → AHeap → Prop} {i : Nat} {o : Op} {r : List Oper} {d : Option Tmp} {t : TypeId} {p : String} {af : Array Edge} {v : Value}
    {id id' : Nat} {b b' : ABlk} (hw : (own W i).contains id = true ∧ (own W i).contains id' = true) (hot : others C W i = []) (h : AOp P ⟨d, o, t, p, af, none⟩ tm s fun v' t'' => v' = v ∧ t'' = (s.set id b).set id' b')
    (hr : AOpsD P ops C W (i + 1) r (put tm d v) ((s.set id b).set id' b') K) : AOpsD P ops C W i (⟨d, o, t, p, af, none⟩ :: r) tm s K := by
  refine AOpsD.write v [(id, b), (id', b')] trivial (by simpa using hw) (fun t' ha => ?_) hr
  have : t' = s := by funext i; exact ha i (by rw [hot]; simp)
  subst this; exact h
/-- New blocks, all under names from M on. -/
theorem grow {s sb : AHeap} {M M2 : Nat} {d : List (Nat × ABlk)} (hM : Top M s) (hF : Fr s sb []) (h2 : M ≤ M2) (hd : ∀ p ∈ d, M ≤ p.1 ∧ p.1 < M2 ∧ ∀ D, p.2.nm D) :
    Ext (updH s d) s ∧ Top M2 (updH s d) ∧ Fr (updH s d) sb [] ∧ ∀ i, i < M → updH s d i = s i := by
  have hout : ∀ i, (i < M ∨ M2 ≤ i) → i ∉ d.map (·.1) := fun i hi hm => by
    obtain ⟨p, hp, rfl⟩ := List.mem_map.1 hm
    have := hd p hp; omega
  refine ⟨(Ext.refl s).upd d fun p hp => (hd p hp).2.2 _, fun i hi => ?_, fun i hi c hc => ?_, fun i hi => updH_out (hout i (.inl hi))⟩
  · rw [updH_out (hout i (.inr hi))]; exact hM i (by omega)
  · have hs := hF i hi c hc
    have : i < M := Nat.lt_of_not_le fun e => by rw [hM i e] at hs; cases hs
    rw [updH_out (hout i (.inl this))]; exact hs
/-- The same, with a memory that is told by the names that change. -/
theorem D.anyt {P : Program} {ops : Array Oper} {C : List (List Nat)} {W : List (Nat × List Nat)} {tm : Env} {s : AHeap} {K : Env → AHeap → Prop} {i : Nat} {o : Op} {r : List Oper} {dd : Option Tmp} {t : TypeId} {p : String} {af : Array Edge} {v : Value}
    (d : List (Nat × ABlk)) (hw : ∀ id ∈ d.map (·.1), id ∈ own W i) (hot : others C W i = [])
    (h : AOp P ⟨dd, o, t, p, af, none⟩ tm s fun v' t'' => v' = v ∧ t'' = updH s d) (hr : AOpsD P ops C W (i + 1) r (put tm dd v) (updH s d) K) : AOpsD P ops C W i (⟨dd, o, t, p, af, none⟩ :: r) tm s K := by
  refine AOpsD.write v d trivial hw (fun t' ha => ?_) hr
  have : t' = s := by funext i; exact ha i (by rw [hot]; simp)
  subst this; exact h
end Go.Proofs.Ytdbnpghckgmaoaa.Ab

/- The rules of the walk under short names, their side conditions by kind. -/
namespace Go.Proofs.Ytdbnpghckgmaoaa.Ab
set_option linter.unusedVariables false
set_option linter.unusedSimpArgs false
set_option linter.unusedSectionVars false
open Go.RowKit
/-- To be spelled out. -/
def Nm (a b : List Value) : Prop := a = b
theorem Nm.mk {a b : List Value} (h : a = b) : Nm a b := h
namespace Qz
theorem tk {c : List Value} {n : Nat} (h : c.length = n) : (c.drop 0).take n = c := by rw [List.drop_zero, ← h, List.take_length]
theorem sp {c l : List Value} (h : l.length = c.length) : splice c 0 l = l := O.splice_all h
section
variable {P : Program} {tm : Env} {s : AHeap} {K : Value → AHeap → Prop} {d : Option Tmp} {t : TypeId} {p : String} {af : Array Edge} {gd : Option (Nat × Bool)}
theorem ld {x : Operand} {xt : TypeId} {td : TD} [h1 : HasTD P xt td] {id off sz : Nat} {rw : Bool} {c : List Value} {v : Value} (ha : td.agg = false) (hx : Ev tm x (.pointer (some ⟨id, off, none⟩))) (hs : At s id (.cells rw sz c))
    (hv : Get c off v) (h : K v s) : AOp P ⟨d, .load xt x, t, p, af, gd⟩ tm s K := O.loadG ha hx hs hv h
theorem lda {x : Operand} {xt : TypeId} {td : TD} [h1 : HasTD P xt td] {id off sz : Nat} {rw : Bool} {c l : List Value} (ha : td.agg = true) (hx : Ev tm x (.pointer (some ⟨id, off, none⟩))) (hs : At s id (.cells rw sz c))
    (ho : Lt (off + td.size) (c.length + 1)) (hl : Nm ((c.drop off).take td.size) l) (h : K (.agg l.toArray) s) : AOp P ⟨d, .load xt x, t, p, af, gd⟩ tm s K := O.loadAggN ha hx hs ho hl h
theorem st {x y : Operand} {xt : TypeId} {td : TD} [h1 : HasTD P xt td] {id off sz : Nat} {c c' : List Value} {v : Value} (ha : td.agg = false) (hz : td.size = 1) (hx : Ev tm x (.pointer (some ⟨id, off, none⟩))) (hy : Ev tm y v) (hs : At s id (.cells true sz c)) (hv : v.cells = #[v])
    (hn : notTup v = true) (ho : Lt off c.length) (hc : Nm (c.set off v) c') (h : K undef (s.set id (.cells true sz c'))) : AOp P ⟨d, .store xt x y, t, p, af, gd⟩ tm s K := O.storeN hz hx hy hs hv hn ho hc h
theorem sta {x y : Operand} {xt : TypeId} {td : TD} [h1 : HasTD P xt td] {id off sz : Nat} {c l c' : List Value} (ha : td.agg = true) (hx : Ev tm x (.pointer (some ⟨id, off, none⟩))) (hy : Ev tm y (.agg l.toArray)) (hs : At s id (.cells true sz c)) (hl : l.length = td.size)
    (ho : Lt (off + td.size) (c.length + 1)) (hc : Nm (splice c off l) c') (h : K undef (s.set id (.cells true sz c'))) : AOp P ⟨d, .store xt x y, t, p, af, gd⟩ tm s K := O.storeAggN ha hx hy hs hl ho hc h
theorem bs {xt : TypeId} {parts : Array (Nat × Operand)} {l : List (Nat × Value)} {fs : List (Nat × TypeId)} {sz by_ : Nat} {z c0 c : List Value} {pl : List (Nat × Nat)} [h1 : HasTD P xt ⟨.struct fs, sz, by_, .agg z.toArray⟩] [h2 : HasPl P xt pl] (hz : z.all pl1 = true) (hp : EvP tm parts.toList l)
    (hc : afill (fun i => pl[i]?) z l = some c0) (hn : Nm c0 c) (h : K (.agg c.toArray) s) : AOp P ⟨d, .build xt parts, t, p, af, gd⟩ tm s K := O.buildS hp hz hc hn h
theorem br {xt e : TypeId} {parts : Array (Nat × Operand)} {l : List (Nat × Value)} {n sz by_ : Nat} {z c0 c : List Value} {te : TD} [h1 : HasTD P xt ⟨.array n e, sz, by_, .agg z.toArray⟩] [h2 : HasTD P e te] (hz : z.all pl1 = true) (hp : EvP tm parts.toList l)
    (hc : afill (fun i => some (i * te.size, te.size)) z l = some c0) (hn : Nm c0 c) (h : K (.agg c.toArray) s) : AOp P ⟨d, .build xt parts, t, p, af, gd⟩ tm s K := O.buildR hp hz hc hn h
theorem ck {g : FuncId} {args : Array Operand} {ts : Array TypeId} {l : List Value} {v : Value} {s' : AHeap} (ha : Evs tm args.toList l)
    (hc : ACall P g l s v s') (h : K v s') : AOp P ⟨d, .call ⟨.value (.func g), args, ts⟩, t, p, af, gd⟩ tm s K := O.callF ha hc h
theorem xt {x : Operand} {i : Nat} {l : List Value} {v : Value} (hx : Ev tm x (.tuple l.toArray)) (hv : Get l i v) (h : K v s) : AOp P ⟨d, .extract x i, t, p, af, gd⟩ tm s K := O.extract hx (by unfold Get at hv; exact hv) h
/-- A box or a variable, under the first free name. -/
theorem bx {x : Operand} {e : TypeId} {l : List Value} {M : Nat} (hT : Top M s) (hx : Ev tm x (.agg l.toArray)) (h : K (.pointer (some ⟨M, 0, none⟩)) (s.set M (.cells true 1 l))) : AOp P ⟨d, .box e x, t, p, af, gd⟩ tm s K := O.boxA M hx (hT.free (Nat.le_refl _)) h
theorem bx1 {x : Operand} {e : TypeId} {v : Value} {M : Nat} (hT : Top M s) (hx : Ev tm x v) (hv : v.cells = #[v]) (hn : notTup v = true) (h : K (.pointer (some ⟨M, 0, none⟩)) (s.set M (.cells true 1 [v]))) : AOp P ⟨d, .box e x, t, p, af, gd⟩ tm s K := O.box1 M hx (hT.free (Nat.le_refl _)) hv hn h
theorem al {e : TypeId} {k : TK} {sz by_ M : Nat} {l : List Value} [h1 : HasTD P e ⟨k, sz, by_, .agg l.toArray⟩] (hp : l.all pl1 = true) (hT : Top M s) (h : K (.pointer (some ⟨M, 0, none⟩)) (s.set M (.cells true 1 l))) : AOp P ⟨d, .alloc e, t, p, af, gd⟩ tm s K := O.allocA M (hT.free (Nat.le_refl _)) hp h
theorem al1 {e : TypeId} {k : TK} {sz by_ M : Nat} {z : Value} [h1 : HasTD P e ⟨k, sz, by_, z⟩] (hp : plA z = true) (hT : Top M s) (h : K (.pointer (some ⟨M, 0, none⟩)) (s.set M (.cells true 1 [z]))) : AOp P ⟨d, .alloc e, t, p, af, gd⟩ tm s K := O.alloc1 M (hT.free (Nat.le_refl _)) hp h
/-- The same, under a name that is told. -/
theorem bxN (M : Nat) {x : Operand} {e : TypeId} {l : List Value} (hf : Free s M) (hx : Ev tm x (.agg l.toArray)) (h : K (.pointer (some ⟨M, 0, none⟩)) (s.set M (.cells true 1 l))) : AOp P ⟨d, .box e x, t, p, af, gd⟩ tm s K := O.boxA M hx hf h
end
end Qz
attribute [irreducible] Nm
end Go.Proofs.Ytdbnpghckgmaoaa.Ab

/- More rules: guards whose operation was skipped; truths told by what they decide. -/
namespace Go.Proofs.Ytdbnpghckgmaoaa.Ab
set_option linter.unusedVariables false
set_option linter.unusedSimpArgs false
set_option linter.unusedSectionVars false
open Go.RowKit
theorem yl_undef {ops : Array Oper} {tm : Env} {j : Nat} {e : Tmp} (hd : (ops[j]?).bind (·.dst) = some e) (hb : Ev tm (.tmp e) undef) : yl ops tm j = none := by
  have : tm e = undef := hb.eq
  unfold yl; rw [hd]
  show (match tm e with | .bool b => some b | _ => none) = none
  rw [this]; rfl
theorem S.guardU {P : Program} {ops : Array Oper} {r : List Oper} {tm : Env} {s : AHeap} {K : Env → AHeap → Prop} {d : Option Tmp} {t : TypeId} {p : String} {af : Array Edge} {op : Op} {j : Nat} {want : Bool} {e : Tmp}
    (hd : (ops[j]?).bind (·.dst) = some e) (hb : Ev tm (.tmp e) undef) (h : AOps P ops r (put tm d undef) s K) : AOps P ops (⟨d, op, t, p, af, some (j, want)⟩ :: r) tm s K := by
  unfold AOps
  simp only
  rw [yl_undef hd hb, if_neg (by simp)]; exact h
theorem D.guardU {P : Program} {ops : Array Oper} {C : List (List Nat)} {W : List (Nat × List Nat)} {i : Nat} {r : List Oper} {tm : Env} {s : AHeap} {K : Env → AHeap → Prop} {d : Option Tmp} {t : TypeId} {p : String} {af : Array Edge} {op : Op} {j : Nat} {want : Bool} {e : Tmp}
    (hd : (ops[j]?).bind (·.dst) = some e) (hb : Ev tm (.tmp e) undef) (h : AOpsD P ops C W (i + 1) r (put tm d undef) s K) : AOpsD P ops C W i (⟨d, op, t, p, af, some (j, want)⟩ :: r) tm s K :=
  .inr ⟨by show yl ops tm j ≠ some want; rw [yl_undef hd hb]; simp, h⟩
theorem bdec {P : Prop} {b : Bool} {i : Decidable P} (h : b = true ↔ P) : Value.bool b = Value.bool (@decide P i) := by
  congr 1; rw [Bool.eq_iff_iff, decide_eq_true_iff]; exact h
theorem mem {P : Program} {n : Nat} {c : Code} {Q : AExit → Env → AHeap → Prop} {tm : Env} {s : AHeap} (Mp : AHeap → Prop) (h : Mp s) (hr : ∀ s2, Mp s2 → AWp P n c Q tm s2) : AWp P n c Q tm s := hr s h
end Go.Proofs.Ytdbnpghckgmaoaa.Ab

/- Lists that grow by append: none yet, or all of a block of its own. -/
namespace Go.Proofs.Ytdbnpghckgmaoaa.Ab
set_option linter.unusedVariables false
set_option linter.unusedSimpArgs false
set_option linter.unusedSectionVars false
open Go.RowKit
theorem X.stopC {P : Program} {n id : Nat} {c z : Code} {Q : AExit → Env → AHeap → Prop} {tm : Env} {s : AHeap} (h : AWp P n (.seq (.block id c) z) Q tm s) : AWp P n (.seq (.block id c) z) Q tm s := h
/-- A conversion whose outcome is known. -/
theorem O.convW {P : Program} {tm : Env} {s : AHeap} {K : Value → AHeap → Prop} {d : Option Tmp} {t : TypeId} {p : String} {af : Array Edge} {gd : Option (Nat × Bool)} {x : Operand} {src dst : TypeId} {k k0 k1 : IntKind} {sz by_ : Nat} {z : Value} {sz' by' : Nat} {z' : Value} {a b : Int} [h1 : HasTD P src ⟨.int k0, sz, by_, z⟩] [h2 : HasTD P dst ⟨.int k1, sz', by', z'⟩]
    (hw : k1.wrap a = b) (hx : Ev tm x (.int k a)) (h : K (.int k1 b) s) : AOp P ⟨d, .convert src dst x, t, p, af, gd⟩ tm s K := by subst hw; exact O.convInt hx h
/-- A list of k elements (of es cells each): nil, or all of a block named from N on. -/
def Gr (s : AHeap) (es N : Nat) (v : Value) (on : Option Nat) (k : Nat) (xs : List Value) : Prop :=
  (v = .slice none 0 0 ∧ on = none ∧ k = 0 ∧ xs = []) ∨ ∃ q, on = some q ∧ v = .slice (some ⟨q, 0, none⟩) k k ∧ At s q (.cells true es xs) ∧ xs.length = k * es ∧ N ≤ q
namespace Gr
variable {s s' : AHeap} {es N k : Nat} {v : Value} {on : Option Nat} {xs : List Value}
theorem nil : Gr s es N (.slice none 0 0) none 0 [] := .inl ⟨rfl, rfl, rfl, rfl⟩
theorem new {q : Nat} (h : At s q (.cells true es xs)) (hl : xs.length = k * es) (hq : N ≤ q) : Gr s es N (.slice (some ⟨q, 0, none⟩) k k) (some q) k xs := .inr ⟨q, rfl, rfl, h, hl, hq⟩
theorem lat (h : Gr s es N v on k xs) : LAt s es v on k xs := by
  rcases h with ⟨rfl, rfl, rfl, rfl⟩ | ⟨q, rfl, rfl, h, hl, _⟩
  · exact .nil
  · exact .blk h hl
theorem of_at (h : Gr s es N v on k xs) (hs : ∀ q, on = some q → s' q = s q) : Gr s' es N v on k xs := by
  rcases h with ⟨rfl, rfl, rfl, rfl⟩ | ⟨q, rfl, rfl, h, hl, hq⟩
  · exact nil
  · exact new (by unfold At; rw [hs q rfl]; exact h.eq) hl hq
theorem lt {M : Nat} (h : Gr s es N v on k xs) (hT : Top M s) : ∀ q, on = some q → q < M := by
  rcases h with ⟨rfl, rfl, rfl, rfl⟩ | ⟨q, rfl, rfl, h, hl, hq⟩
  · intro q e; cases e
  · intro q' e; obtain rfl := Option.some.inj e; exact hT.lt h
theorem from_ (h : Gr s es N v on k xs) : ∀ q, on = some q → N ≤ q := by
  rcases h with ⟨rfl, rfl, rfl, rfl⟩ | ⟨q, rfl, rfl, h, hl, hq⟩
  · intro q e; cases e
  · intro q' e; obtain rfl := Option.some.inj e; exact hq
theorem set (h : Gr s es N v on k xs) {id : Nat} {b : ABlk} (hid : ∀ q, on = some q → q ≠ id) : Gr (s.set id b) es N v on k xs := h.of_at fun q e => AHeap.set_other _ _ (hid q e)
theorem own (h : Gr s es N v on k xs) (hk : k ≠ 0) : ∃ q, on = some q ∧ v = .slice (some ⟨q, 0, none⟩) k k ∧ At s q (.cells true es xs) ∧ xs.length = k * es ∧ N ≤ q := by
  rcases h with ⟨_, _, h, _⟩ | h
  · exact absurd h hk
  · exact h
theorem isl (h : Gr s es N v on k xs) : ∃ A, v = .slice A k k := by
  rcases h with ⟨rfl, rfl, rfl, rfl⟩ | ⟨q, rfl, rfl, h, hl, hq⟩
  · exact ⟨_, rfl⟩
  · exact ⟨_, rfl⟩
/-- Behind an append. -/
theorem app {M k' : Nat} {xs' : List Value} (g : Grew s s' on M (.cells true es xs')) (hl : xs'.length = k' * es) (hM : N ≤ M) : Gr s' es N (.slice (some ⟨M, 0, none⟩) k' k') (some M) k' xs' := new g.hit hl hM
/-- What else lies there behind an append. -/
theorem frN {s0 : AHeap} {M : Nat} {b : ABlk} (h : Gr s es N v on k xs) (g : Grew s s' on M b) (F : Fr s s0 []) (hT : Top N s0) : Fr s' s0 [] := g.fr F fun q e => .inl (hT.none (h.from_ q e))
theorem topN {M : Nat} {b : ABlk} (h : Gr s es N v on k xs) (g : Grew s s' on M b) (T : Top M s) : Top (M + 1) s' := g.topN T (h.lt T)
theorem off {M : Nat} {b c : ABlk} (g : Grew s s' on M b) {i : Nat} (hi : At s i c) (h1 : ∀ q, on = some q → q ≠ i) (h2 : i ≠ M) : At s' i c := At.var (by rw [g.off i (fun e => h1 i e rfl) h2]; exact hi.eq)
end Gr
end Go.Proofs.Ytdbnpghckgmaoaa.Ab

/- Rules for maps. -/
namespace Go.Proofs.Ytdbnpghckgmaoaa.Ab
set_option linter.unusedVariables false
set_option linter.unusedSimpArgs false
set_option linter.unusedSectionVars false
open Go.RowKit
namespace O
section
variable {P : Program} {tm : Env} {s : AHeap} {K : Value → AHeap → Prop} {d : Option Tmp} {t : TypeId} {p : String} {af : Array Edge} {gd : Option (Nat × Bool)}
theorem makeMap (M : Nat) {ty : TypeId} (hid : Free s M) (h : K (.map (some M)) (s.set M (.map []))) : AOp P ⟨d, .makeMap ty none, t, p, af, gd⟩ tm s K := ⟨M, hid.eq, h⟩
theorem lookup {x i : Operand} {ty kt et : TypeId} {sz by_ : Nat} {z : Value} {te : TD} [h1 : HasTD P ty ⟨.map kt et, sz, by_, z⟩] [h2 : HasTD P et te] {D : Value → Prop} {id : Nat} {es : List (Value × Value)} {k : Value} {r : Option (Nat × Value)}
    (hx : Ev tm x (.map (some id))) (hi : Ev tm i k) (hs : At s id (.map es)) (hz : plB te.zero = true) (hK : KeyT P kt D) (hd : D k) (he : ∀ e ∈ es, D e.1) (hf : MFind k es 0 r) (h : K (mres te.zero r) s) :
    AOp P ⟨d, .lookup ty x i false, t, p, af, gd⟩ tm s K :=
  ⟨_, ⟨_, te, kt, et, D, es, r, h1.is, rfl, h2.is, hz, hK, by rw [hi.eq]; exact hd, .inr ⟨id, hx.eq, hs.eq⟩, he, by rw [hi.eq]; exact hf, by rw [if_neg (by decide)]⟩, h⟩
theorem lookup2 {x i : Operand} {ty kt et : TypeId} {sz by_ : Nat} {z : Value} {te : TD} [h1 : HasTD P ty ⟨.map kt et, sz, by_, z⟩] [h2 : HasTD P et te] {D : Value → Prop} {id : Nat} {es : List (Value × Value)} {k : Value} {r : Option (Nat × Value)}
    (hx : Ev tm x (.map (some id))) (hi : Ev tm i k) (hs : At s id (.map es)) (hz : plB te.zero = true) (hK : KeyT P kt D) (hd : D k) (he : ∀ e ∈ es, D e.1) (hf : MFind k es 0 r) (h : K (.tuple #[mres te.zero r, .bool r.isSome]) s) :
    AOp P ⟨d, .lookup ty x i true, t, p, af, gd⟩ tm s K :=
  ⟨_, ⟨_, te, kt, et, D, es, r, h1.is, rfl, h2.is, hz, hK, by rw [hi.eq]; exact hd, .inr ⟨id, hx.eq, hs.eq⟩, he, by rw [hi.eq]; exact hf, by rw [if_pos rfl]⟩, h⟩
def mset (k x : Value) (es : List (Value × Value)) : Option (Nat × Value) → List (Value × Value)
  | some p => es.set p.1 (k, x)
  | none => es ++ [(k, x)]
theorem mapUpdate {m i x : Operand} {ty kt et : TypeId} {sz by_ : Nat} {z : Value} [h1 : HasTD P ty ⟨.map kt et, sz, by_, z⟩] {D : Value → Prop} {id : Nat} {es : List (Value × Value)} {k v : Value} {r : Option (Nat × Value)}
    (hm : Ev tm m (.map (some id))) (hi : Ev tm i k) (hx : Ev tm x v) (hs : At s id (.map es)) (hK : KeyT P kt D) (hd : D k) (he : ∀ e ∈ es, D e.1) (hf : MFind k es 0 r) (hn : notTup v = true) (h : K undef (s.set id (.map (mset k v es r)))) :
    AOp P ⟨d, .mapUpdate ty m i x, t, p, af, gd⟩ tm s K :=
  ⟨_, ⟨_, kt, et, D, id, es, r, h1.is, rfl, hK, by rw [hi.eq]; exact hd, hm.eq, hs.eq, he, by rw [hi.eq]; exact hf, by rw [hx.eq]; exact hn, rfl⟩, by rw [hi.eq, hx.eq]; cases r <;> exact h⟩
end
end O
end Go.Proofs.Ytdbnpghckgmaoaa.Ab

/- The rules of a walk gathered by kinds, so that 'constructor' finds the rule; closed steps as defaults of hypotheses. Written by gen_abz.py. -/
namespace Go.Proofs.Ytdbnpghckgmaoaa.Ab
set_option linter.unusedVariables false
set_option linter.unusedSimpArgs false
set_option linter.unusedSectionVars false
open Go.RowKit
/-- Is it told by several cells? -/
class Agg (td : TD) (b : outParam Bool) : Prop where
  is : td.agg = b
instance {fs : List (Nat × TypeId)} {s b : Nat} {z : Value} : Agg ⟨.struct fs, s, b, z⟩ true := ⟨rfl⟩
instance {n : Nat} {e : TypeId} {s b : Nat} {z : Value} : Agg ⟨.array n e, s, b, z⟩ true := ⟨rfl⟩
instance {k : IntKind} {s b : Nat} {z : Value} : Agg ⟨.int k, s, b, z⟩ false := ⟨rfl⟩
instance  {s b : Nat} {z : Value} : Agg ⟨.bool, s, b, z⟩ false := ⟨rfl⟩
instance  {s b : Nat} {z : Value} : Agg ⟨.str, s, b, z⟩ false := ⟨rfl⟩
instance {e : TypeId} {s b : Nat} {z : Value} : Agg ⟨.ptr e, s, b, z⟩ false := ⟨rfl⟩
instance {e : TypeId} {s b : Nat} {z : Value} : Agg ⟨.slice e, s, b, z⟩ false := ⟨rfl⟩
instance {k e : TypeId} {s b : Nat} {z : Value} : Agg ⟨.map k e, s, b, z⟩ false := ⟨rfl⟩
inductive Og (P : Program) (tm : Env) (s : AHeap) (K : Value → AHeap → Prop) : Op → Prop
  | move {x : Operand} {v : Value} (hx : Ev tm x v) (h : K v s) : Og P tm s K (.move x)
  | assign {x : Operand} {v : Value} (hx : Ev tm x v) (h : K v s) : Og P tm s K (.assign x)
  | fieldAddr {x : Operand} {xt : TypeId} {f id off : Nat} {fs : List (Nat × TypeId)} {sz by_ : Nat} {z : Value} [h1 : HasTD P xt ⟨.struct fs, sz, by_, z⟩] {o : Nat} {ft : TypeId} {tf : TD} (hx : Ev tm x (.pointer (some ⟨id, off, none⟩))) (hf : fs[f]? = some (o, ft)) (h2 : HasTD P ft tf) (hz : tf.size ≠ 0) (h : K (.pointer (some ⟨id, off + o, none⟩)) s) : Og P tm s K (.fieldAddr xt x f)
  | pickG {c x y : Operand} {b : Bool} (hc : Ev tm c (.bool b)) (h : GK b true (PK tm x K s) (PK tm y K s)) : Og P tm s K (.pick c x y)
  | ld {x : Operand} {xt : TypeId} {td : TD} [h1 : HasTD P xt td] {id off sz : Nat} {rw : Bool} {c : List Value} {v : Value} [ha : Agg td false] (hx : Ev tm x (.pointer (some ⟨id, off, none⟩))) (hs : At s id (.cells rw sz c)) (hv : Get c off v) (h : K v s) : Og P tm s K (.load xt x)
  | lda {x : Operand} {xt : TypeId} {td : TD} [h1 : HasTD P xt td] {id off sz : Nat} {rw : Bool} {c l : List Value} [ha : Agg td true] (hx : Ev tm x (.pointer (some ⟨id, off, none⟩))) (hs : At s id (.cells rw sz c)) (ho : Lt (off + td.size) (c.length + 1)) (hl : Nm ((c.drop off).take td.size) l) (h : K (.agg l.toArray) s) : Og P tm s K (.load xt x)
  | st {x y : Operand} {xt : TypeId} {td : TD} [h1 : HasTD P xt td] {id off sz : Nat} {c c' : List Value} {v : Value} [ha : Agg td false] (hz : td.size = 1) (hx : Ev tm x (.pointer (some ⟨id, off, none⟩))) (hy : Ev tm y v) (hs : At s id (.cells true sz c)) (hv : v.cells = #[v]) (hn : notTup v = true) (ho : Lt off c.length) (hc : Nm (c.set off v) c') (h : K undef (s.set id (.cells true sz c'))) : Og P tm s K (.store xt x y)
  | sta {x y : Operand} {xt : TypeId} {td : TD} [h1 : HasTD P xt td] {id off sz : Nat} {c l c' : List Value} [ha : Agg td true] (hx : Ev tm x (.pointer (some ⟨id, off, none⟩))) (hy : Ev tm y (.agg l.toArray)) (hs : At s id (.cells true sz c)) (hl : l.length = td.size) (ho : Lt (off + td.size) (c.length + 1)) (hc : Nm (splice c off l) c') (h : K undef (s.set id (.cells true sz c'))) : Og P tm s K (.store xt x y)
  | addG {x y : Operand} {ty : TypeId} {xt : TypeId} {sz by_ : Nat} {z : Value} [_h1 : HasTD P xt ⟨.int .i64, sz, by_, z⟩] {a b : Int} (hx : Ev tm x (.int .i64 a)) (hy : Ev tm y (.int .i64 b)) (hr : Rg (-9223372036854775808 ≤ a + b ∧ a + b ≤ 9223372036854775807)) (h : K (.int .i64 (a + b)) s) : Og P tm s K (.binOp .add xt x y ty)
  | subG {x y : Operand} {ty : TypeId} {xt : TypeId} {sz by_ : Nat} {z : Value} [_h1 : HasTD P xt ⟨.int .i64, sz, by_, z⟩] {a b : Int} (hx : Ev tm x (.int .i64 a)) (hy : Ev tm y (.int .i64 b)) (hr : Rg (-9223372036854775808 ≤ a - b ∧ a - b ≤ 9223372036854775807)) (h : K (.int .i64 (a - b)) s) : Og P tm s K (.binOp .sub xt x y ty)
  | mulG {x y : Operand} {ty : TypeId} {xt : TypeId} {sz by_ : Nat} {z : Value} [_h1 : HasTD P xt ⟨.int .i64, sz, by_, z⟩] {a b : Int} (hx : Ev tm x (.int .i64 a)) (hy : Ev tm y (.int .i64 b)) (hr : Rg (-9223372036854775808 ≤ a * b ∧ a * b ≤ 9223372036854775807)) (h : K (.int .i64 (a * b)) s) : Og P tm s K (.binOp .mul xt x y ty)
  | remG {x y : Operand} {ty : TypeId} {xt : TypeId} {kk : IntKind} {sz by_ : Nat} {z : Value} [_h1 : HasTD P xt ⟨.int kk, sz, by_, z⟩] {k : IntKind} {a b : Int} (hx : Ev tm x (.int k a)) (hy : Ev tm y (.int k b)) (hb : Rg (b ≠ 0)) (h : K (.int k (a.tmod b)) s) : Og P tm s K (.binOp .rem xt x y ty)
  | intG {op : BinOp} {x y : Operand} {ty : TypeId} {xt : TypeId} {kk : IntKind} {sz by_ : Nat} {z : Value} [_h1 : HasTD P xt ⟨.int kk, sz, by_, z⟩] {k k' : IntKind} {a b : Int} {v : Value} (hx : Ev tm x (.int k a)) (hy : Ev tm y (.int k' b)) (hv : aint op k a k' b = some v) (h : K v s) : Og P tm s K (.binOp op xt x y ty)
  | ptrEq {x y : Operand} {ty xt e : TypeId} {sz by_ : Nat} {z : Value} [h1 : HasTD P xt ⟨.ptr e, sz, by_, z⟩] {a : Option Addr} (hx : Ev tm x (.pointer a)) (hy : Ev tm y (.pointer none)) (h : K (.bool a.isNone) s) : Og P tm s K (.binOp .eql xt x y ty)
  | ptrNe {x y : Operand} {ty xt e : TypeId} {sz by_ : Nat} {z : Value} [h1 : HasTD P xt ⟨.ptr e, sz, by_, z⟩] {a : Option Addr} (hx : Ev tm x (.pointer a)) (hy : Ev tm y (.pointer none)) (h : K (.bool a.isSome) s) : Og P tm s K (.binOp .neq xt x y ty)
  | slcEq {x y : Operand} {ty xt e : TypeId} {sz by_ : Nat} {z : Value} [h1 : HasTD P xt ⟨.slice e, sz, by_, z⟩] {a : Option Addr} {n c : Nat} (hx : Ev tm x (.slice a n c)) (hy : Ev tm y (.slice none 0 0)) (h : K (.bool a.isNone) s) : Og P tm s K (.binOp .eql xt x y ty)
  | slcNe {x y : Operand} {ty xt e : TypeId} {sz by_ : Nat} {z : Value} [h1 : HasTD P xt ⟨.slice e, sz, by_, z⟩] {a : Option Addr} {n c : Nat} (hx : Ev tm x (.slice a n c)) (hy : Ev tm y (.slice none 0 0)) (h : K (.bool a.isSome) s) : Og P tm s K (.binOp .neq xt x y ty)
  | boolEq {x y : Operand} {ty xt : TypeId} {sz by_ : Nat} {z : Value} [h1 : HasTD P xt ⟨.bool, sz, by_, z⟩] {a b : Bool} (hx : Ev tm x (.bool a)) (hy : Ev tm y (.bool b)) (h : K (.bool (a == b)) s) : Og P tm s K (.binOp .eql xt x y ty)
  | boolNe {x y : Operand} {ty xt : TypeId} {sz by_ : Nat} {z : Value} [h1 : HasTD P xt ⟨.bool, sz, by_, z⟩] {a b : Bool} (hx : Ev tm x (.bool a)) (hy : Ev tm y (.bool b)) (h : K (.bool (!(a == b))) s) : Og P tm s K (.binOp .neq xt x y ty)
  | strEq {x y : Operand} {ty xt : TypeId} {a b : ByteArray} (hx : Ev tm x (.string a)) (hy : Ev tm y (.string b)) (h : K (.bool (decide (a.data.toList = b.data.toList))) s) : Og P tm s K (.binOp .eql xt x y ty)
  | strNe {x y : Operand} {ty xt : TypeId} {a b : ByteArray} (hx : Ev tm x (.string a)) (hy : Ev tm y (.string b)) (h : K (.bool (!decide (a.data.toList = b.data.toList))) s) : Og P tm s K (.binOp .neq xt x y ty)
  | len {x : Operand} {xt e : TypeId} {sz by_ : Nat} {z : Value} [h1 : HasTD P xt ⟨.slice e, sz, by_, z⟩] {a : Option Addr} {n c : Nat} (hx : Ev tm x (.slice a n c)) (h : K (.int .i64 n) s) : Og P tm s K (.call ⟨.builtin .len, #[x], #[xt]⟩)
  | lenStr {x : Operand} {xt : TypeId} {sz by_ : Nat} {z : Value} [h1 : HasTD P xt ⟨.str, sz, by_, z⟩] {b : ByteArray} (hx : Ev tm x (.string b)) (h : K (.int .i64 b.size) s) : Og P tm s K (.call ⟨.builtin .len, #[x], #[xt]⟩)
  | minG {x y : Operand} {ts : Array TypeId} {k k' : IntKind} {a b : Int} (hx : Ev tm x (.int k a)) (hy : Ev tm y (.int k' b)) (h : GK (decide (b < a)) true (K (.int k b) s) (K (.int k a) s)) : Og P tm s K (.call ⟨.builtin .min, #[x, y], ts⟩)
  | maxG {x y : Operand} {ts : Array TypeId} {k k' : IntKind} {a b : Int} (hx : Ev tm x (.int k a)) (hy : Ev tm y (.int k' b)) (h : GK (decide (b > a)) true (K (.int k b) s) (K (.int k a) s)) : Og P tm s K (.call ⟨.builtin .max, #[x, y], ts⟩)
  | ck {g : FuncId} {args : Array Operand} {ts : Array TypeId} {l : List Value} {v : Value} {s' : AHeap} (ha : Evs tm args.toList l) (hc : ACall P g l s v s') (h : K v s') : Og P tm s K (.call ⟨.value (.func g), args, ts⟩)
  | nilCheck {x : Operand} {a : Addr} (hx : Ev tm x (.pointer (some a))) (h : K (.pointer (some a)) s) : Og P tm s K (.nilCheck x)
  | not {x : Operand} {xt : TypeId} {b : Bool} (hx : Ev tm x (.bool b)) (h : K (.bool (!b)) s) : Og P tm s K (.unOp .not xt x)
  | indexG {x y : Operand} {xt e : TypeId} {sz by_ : Nat} {z : Value} {ke : TK} {es eb : Nat} {ez : Value} [h1 : HasTD P xt ⟨.slice e, sz, by_, z⟩] [h2 : HasTD P e ⟨ke, es, eb, ez⟩] {id off : Nat} {sp : Option Nat} {n c : Nat} {k : IntKind} {i : Int} (hx : Ev tm x (.slice (some ⟨id, off, sp⟩) n c)) (hy : Ev tm y (.int k i)) (hi : Rg (0 ≤ i ∧ i < n)) (h : IK off es i fun o => K (.pointer (some ⟨id, o, none⟩)) s) : Og P tm s K (.indexAddr xt x y)
  | indexArrG {x y : Operand} {xt e : TypeId} {m : Nat} {sz by_ : Nat} {z : Value} {ke : TK} {es eb : Nat} {ez : Value} [h1 : HasTD P xt ⟨.array m e, sz, by_, z⟩] [h2 : HasTD P e ⟨ke, es, eb, ez⟩] {id off : Nat} {k : IntKind} {i : Int} (hx : Ev tm x (.pointer (some ⟨id, off, none⟩))) (hy : Ev tm y (.int k i)) (hi : Rg (0 ≤ i ∧ i < m)) (h : IK off es i fun o => K (.pointer (some ⟨id, o, none⟩)) s) : Og P tm s K (.indexAddr xt x y)
  | xt {x : Operand} {i : Nat} {l : List Value} {v : Value} (hx : Ev tm x (.tuple l.toArray)) (hv : Get l i v) (h : K v s) : Og P tm s K (.extract x i)
  | convInt {x : Operand} {src dst : TypeId} {k k0 k1 : IntKind} {sz by_ : Nat} {z : Value} {sz' by' : Nat} {z' : Value} {a : Int} [h1 : HasTD P src ⟨.int k0, sz, by_, z⟩] [h2 : HasTD P dst ⟨.int k1, sz', by', z'⟩] (hx : Ev tm x (.int k a)) (h : K (.int k1 (k1.wrap a)) s) : Og P tm s K (.convert src dst x)
  | fieldV {x : Operand} {xt : TypeId} {f : Nat} {v v' : Value} (hx : Ev tm x v) (hv : afieldV P xt v f = some v') (h : K v' s) : Og P tm s K (.field xt x f)
  | bs {xt : TypeId} {parts : Array (Nat × Operand)} {l : List (Nat × Value)} {fs : List (Nat × TypeId)} {sz by_ : Nat} {z c0 c : List Value} {pl : List (Nat × Nat)} [h1 : HasTD P xt ⟨.struct fs, sz, by_, .agg z.toArray⟩] [h2 : HasPl P xt pl] (hz : z.all pl1 = true) (hp : EvP tm parts.toList l) (hc : afill (fun i => pl[i]?) z l = some c0) (hn : Nm c0 c) (h : K (.agg c.toArray) s) : Og P tm s K (.build xt parts)
  | br {xt e : TypeId} {parts : Array (Nat × Operand)} {l : List (Nat × Value)} {n sz by_ : Nat} {z c0 c : List Value} {te : TD} [h1 : HasTD P xt ⟨.array n e, sz, by_, .agg z.toArray⟩] [h2 : HasTD P e te] (hz : z.all pl1 = true) (hp : EvP tm parts.toList l) (hc : afill (fun i => some (i * te.size, te.size)) z l = some c0) (hn : Nm c0 c) (h : K (.agg c.toArray) s) : Og P tm s K (.build xt parts)
  | sliceLH {xt e : TypeId} {sz by_ eb es : Nat} {z z1 : Value} {ke : TK} {x lo hi : Operand} {id off n c : Nat} {sp : Option Nat} {rw : Bool} {cs : List Value} {l h : Int} {k1 k2 : IntKind} [h1 : HasTD P xt ⟨.slice e, sz, by_, z⟩] [h2 : HasTD P e ⟨ke, es, eb, z1⟩] (hx : Ev tm x (.slice (some ⟨id, off, sp⟩) n c)) (hs : At s id (.cells rw es cs)) (e1 : Ev tm lo (.int k1 l)) (e2 : Ev tm hi (.int k2 h)) (hr : Rg (0 ≤ l ∧ l ≤ h ∧ h ≤ c)) (hk : K (.slice (some ⟨id, off + l.toNat * es, sp⟩) (h.toNat - l.toNat) (c - l.toNat)) s) : Og P tm s K (.slice xt x (some lo) (some hi) none)
  | sliceL {xt e : TypeId} {sz by_ eb es : Nat} {z z1 : Value} {ke : TK} {x lo : Operand} {id off n c : Nat} {sp : Option Nat} {rw : Bool} {cs : List Value} {l : Int} {k1 : IntKind} [h1 : HasTD P xt ⟨.slice e, sz, by_, z⟩] [h2 : HasTD P e ⟨ke, es, eb, z1⟩] (hx : Ev tm x (.slice (some ⟨id, off, sp⟩) n c)) (hs : At s id (.cells rw es cs)) (e1 : Ev tm lo (.int k1 l)) (hr : Rg (0 ≤ l ∧ l ≤ n ∧ n ≤ c)) (hk : K (.slice (some ⟨id, off + l.toNat * es, sp⟩) (n - l.toNat) (c - l.toNat)) s) : Og P tm s K (.slice xt x (some lo) none none)
  | sliceH {xt e : TypeId} {sz by_ eb es : Nat} {z z1 : Value} {ke : TK} {x hi : Operand} {id off n c : Nat} {sp : Option Nat} {rw : Bool} {cs : List Value} {h : Int} {k2 : IntKind} [h1 : HasTD P xt ⟨.slice e, sz, by_, z⟩] [h2 : HasTD P e ⟨ke, es, eb, z1⟩] (hx : Ev tm x (.slice (some ⟨id, off, sp⟩) n c)) (hs : At s id (.cells rw es cs)) (e2 : Ev tm hi (.int k2 h)) (hr : Rg (0 ≤ h ∧ h ≤ c)) (hk : K (.slice (some ⟨id, off, sp⟩) h.toNat c) s) : Og P tm s K (.slice xt x none (some hi) none)
  | sliceLHM {xt e : TypeId} {sz by_ eb es : Nat} {z z1 : Value} {ke : TK} {x lo hi mx : Operand} {id off n c : Nat} {sp : Option Nat} {rw : Bool} {cs : List Value} {l h m : Int} {k1 k2 k3 : IntKind} [h1 : HasTD P xt ⟨.slice e, sz, by_, z⟩] [h2 : HasTD P e ⟨ke, es, eb, z1⟩] (hx : Ev tm x (.slice (some ⟨id, off, sp⟩) n c)) (hs : At s id (.cells rw es cs)) (e1 : Ev tm lo (.int k1 l)) (e2 : Ev tm hi (.int k2 h)) (e3 : Ev tm mx (.int k3 m)) (hr : Rg (0 ≤ l ∧ l ≤ h ∧ h ≤ m ∧ m ≤ c)) (hk : K (.slice (some ⟨id, off + l.toNat * es, some 0⟩) (h.toNat - l.toNat) (m.toNat - l.toNat)) s) : Og P tm s K (.slice xt x (some lo) (some hi) (some mx))
theorem Og.s {P : Program} {tm : Env} {s : AHeap} {K : Value → AHeap → Prop} {d : Option Tmp} {o : Op} {t : TypeId} {p : String} {af : Array Edge} {gd : Option (Nat × Bool)} (h : Og P tm s K o) : AOp P ⟨d, o, t, p, af, gd⟩ tm s K := by
  cases h with
  | move => apply O.move <;> first | assumption | exact Agg.is
  | assign => apply O.assign <;> first | assumption | exact Agg.is
  | fieldAddr => apply O.fieldAddr <;> first | assumption | exact Agg.is
  | pickG => apply O.pickG <;> first | assumption | exact Agg.is
  | ld => apply Qz.ld <;> first | assumption | exact Agg.is
  | lda => apply Qz.lda <;> first | assumption | exact Agg.is
  | st => apply Qz.st <;> first | assumption | exact Agg.is
  | sta => apply Qz.sta <;> first | assumption | exact Agg.is
  | addG => apply O.addG <;> first | assumption | exact Agg.is
  | subG => apply O.subG <;> first | assumption | exact Agg.is
  | mulG => apply O.mulG <;> first | assumption | exact Agg.is
  | remG => apply O.remG <;> first | assumption | exact Agg.is
  | intG => apply O.intG <;> first | assumption | exact Agg.is
  | ptrEq => apply O.ptrEq <;> first | assumption | exact Agg.is
  | ptrNe => apply O.ptrNe <;> first | assumption | exact Agg.is
  | slcEq => apply O.slcEq <;> first | assumption | exact Agg.is
  | slcNe => apply O.slcNe <;> first | assumption | exact Agg.is
  | boolEq => apply O.boolEq <;> first | assumption | exact Agg.is
  | boolNe => apply O.boolNe <;> first | assumption | exact Agg.is
  | strEq => apply O.strEq <;> first | assumption | exact Agg.is
  | strNe => apply O.strNe <;> first | assumption | exact Agg.is
  | len => apply O.len <;> first | assumption | exact Agg.is
  | lenStr => apply O.lenStr <;> first | assumption | exact Agg.is
  | minG => apply O.minG <;> first | assumption | exact Agg.is
  | maxG => apply O.maxG <;> first | assumption | exact Agg.is
  | ck => apply Qz.ck <;> first | assumption | exact Agg.is
  | nilCheck => apply O.nilCheck <;> first | assumption | exact Agg.is
  | not => apply O.not <;> first | assumption | exact Agg.is
  | indexG => apply O.indexG <;> first | assumption | exact Agg.is
  | indexArrG => apply O.indexArrG <;> first | assumption | exact Agg.is
  | xt => apply Qz.xt <;> first | assumption | exact Agg.is
  | convInt => apply O.convInt <;> first | assumption | exact Agg.is
  | fieldV => apply O.fieldV <;> first | assumption | exact Agg.is
  | bs => apply Qz.bs <;> first | assumption | exact Agg.is
  | br => apply Qz.br <;> first | assumption | exact Agg.is
  | sliceLH => apply O.sliceLH <;> first | assumption | exact Agg.is
  | sliceL => apply O.sliceL <;> first | assumption | exact Agg.is
  | sliceH => apply O.sliceH <;> first | assumption | exact Agg.is
  | sliceLHM => apply O.sliceLHM <;> first | assumption | exact Agg.is
/-- Ways on, behind a part of code. -/
inductive Xg : Prop → Prop
  | thenN {P : Program} {n : Nat} {Q : AExit → Env → AHeap → Prop} {tm : Env} {s : AHeap} {y : Code} (h : AWp P n y Q tm s) : Xg (thenQ P n y Q .normal tm s)
  | thenE {P : Program} {n id : Nat} {Q : AExit → Env → AHeap → Prop} {tm : Env} {s : AHeap} {y : Code} (h : Q (.exit id) tm s) : Xg (thenQ P n y Q (.exit id) tm s)
  | thenR {P : Program} {n : Nat} {Q : AExit → Env → AHeap → Prop} {tm : Env} {s : AHeap} {y : Code} (h : Q .ret tm s) : Xg (thenQ P n y Q .ret tm s)
  | blockN {id : Nat} {Q : AExit → Env → AHeap → Prop} {tm : Env} {s : AHeap} (h : Q .normal tm s) : Xg (blockQ id Q .normal tm s)
  | blockR {id : Nat} {Q : AExit → Env → AHeap → Prop} {tm : Env} {s : AHeap} (h : Q .ret tm s) : Xg (blockQ id Q .ret tm s)
  | blockE {id : Nat} {Q : AExit → Env → AHeap → Prop} {tm : Env} {s : AHeap} (h : Q .normal tm s) : Xg (blockQ id Q (.exit id) tm s)
  | blockO {id id' : Nat} {Q : AExit → Env → AHeap → Prop} {tm : Env} {s : AHeap} (hne : Nat.beq id' id = false) (h : Q (.exit id') tm s) : Xg (blockQ id Q (.exit id') tm s)
  | roundE {k id : Nat} {Q : AExit → Env → AHeap → Prop} {tm : Env} {s : AHeap} {I : Nat → Env → AHeap → Prop} (h : Q (.exit id) tm s) : Xg (roundQ I k Q (.exit id) tm s)
  | roundR {k : Nat} {Q : AExit → Env → AHeap → Prop} {tm : Env} {s : AHeap} {I : Nat → Env → AHeap → Prop} (h : Q .ret tm s) : Xg (roundQ I k Q .ret tm s)
  | seqR {P : Program} {n : Nat} {Q : AExit → Env → AHeap → Prop} {tm : Env} {s : AHeap} {id : Nat} {l : List Oper} {y : Code} (h : AOps P l.toArray l tm s fun tm s => AWp P n y Q tm s) : Xg (AWp P n (.seq (.region id l.toArray false) y) Q tm s)
  | seq {P : Program} {n : Nat} {Q : AExit → Env → AHeap → Prop} {tm : Env} {s : AHeap} {x y : Code} (h : AWp P n x (thenQ P n y Q) tm s) : Xg (AWp P n (.seq x y) Q tm s)
  | block {P : Program} {n : Nat} {Q : AExit → Env → AHeap → Prop} {tm : Env} {s : AHeap} {id : Nat} {c : Code} (h : AWp P n c (blockQ id Q) tm s) : Xg (AWp P n (.block id c) Q tm s)
  | region {P : Program} {n : Nat} {Q : AExit → Env → AHeap → Prop} {tm : Env} {s : AHeap} {id : Nat} {l : List Oper} (h : AOps P l.toArray l tm s fun tm' s' => Q .normal tm' s') : Xg (AWp P n (.region id l.toArray false) Q tm s)
  | skip {P : Program} {n : Nat} {Q : AExit → Env → AHeap → Prop} {tm : Env} {s : AHeap} (h : Q .normal tm s) : Xg (AWp P n .skip Q tm s)
  | ret {P : Program} {n : Nat} {Q : AExit → Env → AHeap → Prop} {tm : Env} {s : AHeap} (h : Q .ret tm s) : Xg (AWp P n .ret Q tm s)
  | exit {P : Program} {n : Nat} {Q : AExit → Env → AHeap → Prop} {tm : Env} {s : AHeap} {id : Nat} (h : Q (.exit id) tm s) : Xg (AWp P n (.exit id) Q tm s)
  | condG {P : Program} {n : Nat} {Q : AExit → Env → AHeap → Prop} {tm : Env} {s : AHeap} {c : Operand} {x y : Code} {b : Bool} (hc : Ev tm c (.bool b)) (h : GK b true (AWp P n x Q tm s) (AWp P n y Q tm s)) : Xg (AWp P n (.cond c x y) Q tm s)
  | gTT {p q : Prop} (h : p) : Xg (GK true true p q)
  | gFF {p q : Prop} (h : p) : Xg (GK false false p q)
  | gTF {p q : Prop} (h : q) : Xg (GK false true p q)
  | gFT {p q : Prop} (h : q) : Xg (GK true false p q)
  | op {P : Program} {ops : Array Oper} {r : List Oper} {tm : Env} {s : AHeap} {K : Env → AHeap → Prop} {d : Option Tmp} {t : TypeId} {p : String} {af : Array Edge} {o : Op} (h : AOp P ⟨d, o, t, p, af, none⟩ tm s fun v s' => AOps P ops r (put tm d v) s' K) : Xg (AOps P ops (⟨d, o, t, p, af, none⟩ :: r) tm s K)
  | nil {P : Program} {ops : Array Oper} {tm : Env} {s : AHeap} {K : Env → AHeap → Prop} (h : K tm s) : Xg (AOps P ops [] tm s K)
  | dnil {P : Program} {ops : Array Oper} {C : List (List Nat)} {W : List (Nat × List Nat)} {i : Nat} {tm : Env} {s : AHeap} {K : Env → AHeap → Prop} (h : K tm s) : Xg (AOpsD P ops C W i [] tm s K)
  | enil {tm : Env} : Xg (Evs tm [] [])
  | econs {tm : Env} {x : Operand} {v : Value} {l : List Operand} {m : List Value} (h : Ev tm x v) (r : Evs tm l m) : Xg (Evs tm (x :: l) (v :: m))
  | pnil {tm : Env} : Xg (EvP tm [] [])
  | pcons {tm : Env} {i : Nat} {x : Operand} {v : Value} {l : List (Nat × Operand)} {m : List (Nat × Value)} (h : Ev tm x v) (r : EvP tm l m) : Xg (EvP tm ((i, x) :: l) ((i, v) :: m))
  | onone {tm : Env} : Xg (EvO tm none none)
  | osome {tm : Env} {x : Operand} {v : Value} (h : Ev tm x v) : Xg (EvO tm (some x) (some v))
  | pk {tm : Env} {x : Operand} {K : Value → AHeap → Prop} {s : AHeap} {v : Value} (hx : Ev tm x v) (h : K v s) : Xg (PK tm x K s)
  | ik01 {i : Int} {F : Nat → Prop} (h : F i.toNat) : Xg (IK 0 1 i F)
  | ik0 {es : Nat} {i : Int} {F : Nat → Prop} (h : F (i.toNat * es)) : Xg (IK 0 es i F)
  | ikG {off es : Nat} {i : Int} {F : Nat → Prop} (h : F (off + i.toNat * es)) : Xg (IK off es i F)
theorem Xg.s {g : Prop} (h : Xg g) : g := by
  cases h with
  | thenN h => exact X.thenN h
  | thenE h => exact X.thenE h
  | thenR h => exact X.thenR h
  | blockN h => exact X.blockN h
  | blockR h => exact X.blockR h
  | blockE h => exact X.blockE h
  | blockO hne h => exact X.blockO (Nat.ne_of_beq_eq_false hne) h
  | roundE h => exact X.roundE h
  | roundR h => exact X.roundR h
  | seqR h => exact AWp.seqR h
  | seq h => exact AWp.seq h
  | block h => exact AWp.block h
  | region h => exact AWp.region h
  | skip h => exact AWp.skip h
  | ret h => exact AWp.ret h
  | exit h => exact AWp.exit h
  | condG hc h => exact X.condG hc h
  | gTT h => exact Ab.gTT h
  | gFF h => exact Ab.gFF h
  | gTF h => exact Ab.gTF h
  | gFT h => exact Ab.gFT h
  | op h => exact S.op h
  | nil h => exact S.nil h
  | dnil h => exact D.nil h
  | enil => exact Evs.nil
  | econs h r => exact Evs.cons h r
  | pnil => exact EvP.nil
  | pcons h r => exact EvP.cons h r
  | onone => exact EvO.none
  | osome h => exact EvO.some h
  | pk hx h => exact Ab.pk hx h
  | ik01 h => exact Ab.ik01 h
  | ik0 h => exact Ab.ik0 h
  | ikG h => exact Ab.ikG h
/-! closed steps: the tactic stands here, as the default of the hypothesis -/
theorem ev_ {tm : Env} {x : Operand} {v : Value} (h : Ev tm x v := by first | ((repeat' (first | exact Ev.hit | (apply Ev.missB; case h => rfl) | exact Ev.const | exact Ev.func | apply Ev.non | assumption | (apply Ev.arg; rfl))); done) | fail) : Ev tm x v := h
theorem evs_ {tm : Env} {x : List Operand} {v : List Value} (h : Evs tm x v := by first | ((repeat' (first | exact Evs.nil | (apply Evs.cons; case h => (repeat' (first | exact Ev.hit | (apply Ev.missB; case h => rfl) | exact Ev.const | exact Ev.func | apply Ev.non | assumption | (apply Ev.arg; rfl)))))); done) | fail) : Evs tm x v := h
theorem evp_ {tm : Env} {x : List (Nat × Operand)} {v : List (Nat × Value)} (h : EvP tm x v := by first | ((repeat' (first | exact EvP.nil | (apply EvP.cons; case h => (repeat' (first | exact Ev.hit | (apply Ev.missB; case h => rfl) | exact Ev.const | exact Ev.func | apply Ev.non | assumption | (apply Ev.arg; rfl)))))); done) | fail) : EvP tm x v := h
theorem at_ {s : AHeap} {i : Nat} {b : ABlk} (h : At s i b := by first | ((repeat' (first | exact At.hit | assumption | (apply At.var; assumption) | (apply At.agree; (case ha => assumption); (case hn => (first | exact List.not_mem_nil | (simp [others, unordB, cC]; done) | (simp [others, unordB, cC]; omega)))) | (apply At.miss; case h => omega) | (exact Top.free (by assumption) (by omega)))); done) | fail) : At s i b := h
theorem free_ {s : AHeap} {i : Nat} (h : Free s i := by first | ((repeat' (first | assumption | (apply Free.agree; (case ha => assumption); (case hn => (first | exact List.not_mem_nil | (simp [others, unordB, cC]; done) | (simp [others, unordB, cC]; omega)))) | (apply Free.from; (case h => assumption); (case hi => omega)) | exact Top.free (by assumption) (by omega) | (apply Free.miss; case h => omega))); done) | fail) : Free s i := h
theorem frees_ {s : AHeap} {i : Nat} (h : Free s i := by first | ((repeat' (first | assumption | exact Top.free hT (by omega) | (apply Free.miss; case h => omega))); done) | fail) : Free s i := h
theorem fr_ {s s1 : AHeap} {l : List Nat} (h : Fr s s1 l := by first | ((repeat' (first | assumption | exact Fr.refl _ _ | (apply Fr.set; (case hid => simp)) | (apply Fr.new; (case hid => (repeat' (first | assumption | (apply Free.agree; (case ha => assumption); (case hn => (first | exact List.not_mem_nil | (simp [others, unordB, cC]; done) | (simp [others, unordB, cC]; omega)))) | (apply Free.from; (case h => assumption); (case hi => omega)) | exact Top.free (by assumption) (by omega) | (apply Free.miss; case h => omega))))))); done) | fail) : Fr s s1 l := h
theorem top_ {M : Nat} {s : AHeap} (h : Top M s := by first | ((repeat' (first | assumption | (apply Top.set; (case hi => omega)) | exact Top.mono (by assumption) (by omega))); done) | fail) : Top M s := h
theorem nrm_ {a b : List Value} (h : a = b := by first | ((first | exact Ab.Qz.tk rfl | exact Ab.Qz.sp rfl | ((try simp only [Ab.splice, Value.cells, List.toList_toArray, List.set_cons_zero, List.set_cons_succ, List.drop_succ_cons, List.drop_zero, List.take_succ_cons, List.take_zero, List.take_nil, List.drop_nil, Nat.zero_add, Nat.add_zero, Nat.reduceAdd, Nat.reduceMul, Int.reduceToNat, Int.toNat_zero, Int.toNat_one, Int.reduceSub, Int.reduceAdd, Nat.one_mul, Nat.zero_mul, Nat.mul_one]) <;> rfl)); done) | fail) : a = b := h
theorem evr_ {P : Program} {tm : Env} {s : AHeap} {r : List ResultVar} {l : List Value} (h : EvR P tm s r l := by first | ((repeat' (first | exact EvR.nil | apply EvR.tmp | (apply EvR.cellA; (case ha => rfl)) | (apply EvR.cell1; (case ha => rfl)) | (apply Ab.K.ev; first | exact Ev.hit | (apply Ev.missB; case h => rfl) | exact Ev.const | exact Ev.func | apply Ev.non | assumption | (apply Ev.arg; rfl)) | (apply Ab.K.at_; first | exact At.hit | (apply Ab.asm; assumption) | (apply At.var; assumption) | (apply At.agree; (case ha => assumption); (case hn => (first | exact List.not_mem_nil | (simp [others, unordB, cC]; done) | (simp [others, unordB, cC]; omega)))) | (apply At.miss; case h => omega)) | rfl)); done) | fail) : EvR P tm s r l := h
theorem gy_ {b w : Bool} {p q : Prop} (h : p) (hw : b = w := by first | assumption | fail) : GK b w p q := gY hw h
end Go.Proofs.Ytdbnpghckgmaoaa.Ab

/- Lists that a call leaves. -/
namespace Go.Proofs.Ytdbnpghckgmaoaa.Ab
set_option linter.unusedVariables false
set_option linter.unusedSimpArgs false
set_option linter.unusedSectionVars false
open Go.RowKit
/-- A list that a call leaves: nil, or all of a new block. -/
def NewL (s : AHeap) (es : Nat) (v : Value) (k : Nat) (xs : List Value) (s' : AHeap) : Prop :=
  (k = 0 ∧ xs = [] ∧ v = .slice none 0 0 ∧ s' = s) ∨ ∃ u, s u = none ∧ v = .slice (some ⟨u, 0, none⟩) k k ∧ xs.length = k * es ∧ s' = s.set u (.cells true es xs)
theorem Gr.newL {s s1 : AHeap} {es N k : Nat} {v : Value} {on : Option Nat} {xs : List Value} (G : Gr s1 es N v on k xs) (F : Fr s1 s []) (hT : Top N s) (hp : xs.all pl1 = true) :
    ∃ s', NewL s es v k xs s' ∧ Keeps s s1 s' v ∧ ∀ kk x, Keeps s s1 s' (.tuple #[v, .int kk x]) := by
  rcases G with ⟨rfl, rfl, rfl, rfl⟩ | ⟨q, rfl, rfl, h, hl, hq⟩
  · exact ⟨s, .inl ⟨rfl, rfl, rfl, rfl⟩, Keeps.fr F (plR.nm rfl), fun kk x => Keeps.fr F (plR.nm rfl)⟩
  · refine ⟨s.set q (.cells true es xs), .inr ⟨q, hT.none hq, rfl, hl, rfl⟩, ?_, fun kk x => ?_⟩
    · exact Keeps.upd [(q, _)] (fun i _ c hc => F i (by simp) c hc) ⟨⟨h, nm_scal hp⟩, trivial⟩ (updH_some (.inr (by simp)))
    · refine Keeps.upd [(q, _)] (fun i _ c hc => F i (by simp) c hc) ⟨⟨h, nm_scal hp⟩, trivial⟩ ?_
      intro y hy
      simp only [List.mem_toArray, List.mem_cons, List.not_mem_nil, or_false] at hy
      rcases hy with rfl | rfl
      · exact updH_some (.inr (by simp))
      · trivial
theorem NewL.fr {s s' : AHeap} {es k : Nat} {v : Value} {xs : List Value} (h : NewL s es v k xs s') : Fr s' s [] := by
  rcases h with ⟨_, _, _, rfl⟩ | ⟨u, hu, _, _, rfl⟩
  · exact Fr.refl _ _
  · exact Fr.new (by unfold Free; exact hu) (Fr.refl _ _)
theorem NewL.top {s s' : AHeap} {es k N : Nat} {v : Value} {xs : List Value} (h : NewL s es v k xs s') (hT : Top N s) : ∃ M, N ≤ M ∧ Top M s' := by
  rcases h with ⟨_, _, _, rfl⟩ | ⟨u, hu, _, _, rfl⟩
  · exact ⟨N, Nat.le_refl _, hT⟩
  · exact ⟨max N (u + 1), by omega, (hT.mono (by omega)).set (by omega)⟩
theorem NewL.val {s s' : AHeap} {es k : Nat} {v : Value} {xs : List Value} (h : NewL s es v k xs s') : v = .slice none 0 0 ∨ ∃ u, v = .slice (some ⟨u, 0, none⟩) k k := by
  rcases h with ⟨_, _, h, _⟩ | ⟨u, _, h, _, _⟩
  · exact .inl h
  · exact .inr ⟨u, h⟩
end Go.Proofs.Ytdbnpghckgmaoaa.Ab
