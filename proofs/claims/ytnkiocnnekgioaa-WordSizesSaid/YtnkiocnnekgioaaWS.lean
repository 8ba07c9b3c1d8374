/- words: the program's reading. -/
import Derived.Test.YtnkiocnnekgioaaWR
namespace Go.Proofs.Ytnkiocnnekgioaa
set_option linter.unusedVariables false
set_option linter.unusedSimpArgs false
set_option linter.unusedSectionVars false
open Go.RowKit Ab WP
attribute [local irreducible] AOps AOpsD AOp AWp put nargs AHeap.set At Free ACall ACallE thenQ blockQ roundQ RetQ RetE Src num topV

abbrev z9 : List Value := [.int .i64 0, .int .i64 0, .int .i64 0, .slice none 0 0, .slice none 0 0, .int .i64 0, .int .i64 0, .int .i64 0, .int .i64 0]
theorem tk_top {w : Int} {σ : Sc} : (tk w σ).1 ≤ topV w := by
  have := topV_pos w
  unfold tk takeV
  (repeat' split) <;> omega
theorem rdN_len : ∀ (k : Nat) {σ : Sc}, (rdN k σ).1.length ≤ k
  | 0, _ => by simp [rdN]
  | k + 1, σ => by
    unfold rdN; split
    · simp
    · have := rdN_len k (σ := (tk 1 σ).2); simp only [List.length_cons]; omega
theorem rdL_len : ∀ (k : Nat) {σ : Sc}, (rdL k σ).1.length ≤ k
  | 0, _ => by simp [rdL]
  | k + 1, σ => by
    unfold rdL; split
    · simp
    · have := rdL_len k (σ := (rds [1, 1, 4, 4, 1] σ).2); simp only [List.length_cons]; omega
theorem rdN_stop {k : Nat} {σ σ' : Sc} {r : List Int} (h : rdN k σ = (r, σ')) (hs : k = 0 ∨ σ.2 ≠ 0) : r = [] ∧ σ = σ' := by
  cases k with
  | zero => obtain ⟨a, b⟩ := Prod.mk.inj h; exact ⟨a.symm, b⟩
  | succ k =>
    unfold rdN at h
    rw [if_pos (hs.resolve_left (by omega))] at h
    obtain ⟨a, b⟩ := Prod.mk.inj h; exact ⟨a.symm, b⟩
theorem rdL_stop {k : Nat} {σ σ' : Sc} {r : List (List Int)} (h : rdL k σ = (r, σ')) (hs : k = 0 ∨ σ.2 ≠ 0) : r = [] ∧ σ = σ' := by
  cases k with
  | zero => obtain ⟨a, b⟩ := Prod.mk.inj h; exact ⟨a.symm, b⟩
  | succ k =>
    unfold rdL at h
    rw [if_pos (hs.resolve_left (by omega))] at h
    obtain ⟨a, b⟩ := Prod.mk.inj h; exact ⟨a.symm, b⟩
theorem rdN_go {k : Nat} {σ σ' : Sc} {r : List Int} (h : rdN (k + 1) σ = (r, σ')) (hs : σ.2 = 0) : ∃ r', r = (tk 1 σ).1 :: r' ∧ rdN k (tk 1 σ).2 = (r', σ') := by
  unfold rdN at h
  rw [if_neg (fun x => x hs)] at h
  obtain ⟨a, b⟩ := Prod.mk.inj h; exact ⟨_, a.symm, by rw [← b]⟩
theorem rdL_go {k : Nat} {σ σ' : Sc} {r : List (List Int)} (h : rdL (k + 1) σ = (r, σ')) (hs : σ.2 = 0) : ∃ r', r = (rds KW σ).1 :: r' ∧ rdL k (rds KW σ).2 = (r', σ') := by
  unfold rdL at h
  rw [if_neg (fun x => x hs)] at h
  obtain ⟨a, b⟩ := Prod.mk.inj h; exact ⟨_, a.symm, by rw [← b]⟩
theorem Ab.LAt.of_at {s s' : AHeap} {es : Nat} {v : Value} {on : Option Nat} {n : Nat} {xs : List Value} (h : LAt s es v on n xs) (hs : ∀ o, on = some o → s' o = s o) : LAt s' es v on n xs := by
  cases h with
  | nil => exact .nil
  | blk h a => exact .blk (by unfold At; rw [hs _ rfl]; exact h.eq) a
theorem Ab.LAt.lt {s : AHeap} {es M : Nat} {v : Value} {on : Option Nat} {n : Nat} {xs : List Value} (h : LAt s es v on n xs) (T : Top M s) : ∀ o, on = some o → o < M := by
  cases h with
  | nil => intro o e; cases e
  | blk h a => intro o e; obtain rfl := Option.some.inj e; exact T.lt h
/-- A list that is all of a block of its own (its slice's room is not told). -/
inductive LO (s : AHeap) (es : Nat) : Value → Option Nat → Nat → List Value → Prop
  | nil : LO s es (.slice none 0 0) none 0 []
  | blk {o n : Nat} {xs : List Value} (h : At s o (.cells true es xs)) (hl : xs.length = n * es) : LO s es (.slice (some ⟨o, 0, none⟩) n n) (some o) n xs
theorem LO.of_at {s s' : AHeap} {es : Nat} {v : Value} {on : Option Nat} {n : Nat} {xs : List Value} (h : LO s es v on n xs) (hs : ∀ o, on = some o → s' o = s o) : LO s' es v on n xs := by
  cases h with
  | nil => exact .nil
  | blk h a => exact .blk (by unfold At; rw [hs _ rfl]; exact h.eq) a
theorem LO.lat {s : AHeap} {es : Nat} {v : Value} {on : Option Nat} {n : Nat} {xs : List Value} (h : LO s es v on n xs) : LAt s es v on n xs := by
  cases h with
  | nil => exact .nil
  | blk h a => exact .blk h a
theorem LO.lt {s : AHeap} {es M : Nat} {v : Value} {on : Option Nat} {n : Nat} {xs : List Value} (h : LO s es v on n xs) (T : Top M s) : ∀ o, on = some o → o < M := h.lat.lt T
theorem LO.ba {s : AHeap} {es : Nat} {v : Value} {on : Option Nat} {n : Nat} {xs : List Value} (h : LO s es v on n xs) : BA s es v on n xs := by
  cases h with
  | nil => exact .nil
  | blk h a => exact .blk h (by omega) (Nat.le_refl _) (by rw [List.drop_zero, ← a, List.take_length])
theorem LO.isl {s : AHeap} {es : Nat} {v : Value} {on : Option Nat} {n : Nat} {xs : List Value} (h : LO s es v on n xs) : ∃ A c, v = .slice A n c := by
  cases h with
  | nil => exact ⟨_, _, rfl⟩
  | blk => exact ⟨_, _, rfl⟩
/-- What a reading leaves: its lists. -/
theorem dec_keep {s s1 : AHeap} {M : Nat} {w : Wd} {vn vl x : Value} {on ol : Option Nat} (T : Top M s1) (F : Fr s1 s []) (h1 : LO s1 1 vn on w.ns.length (ints w.ns)) (h2 : LO s1 5 vl ol w.ls.length (kc w.ls)) (hs : ∀ o, on = some o → s o = none) (hs2 : ∀ o, ol = some o → s o = none) (hx : plB x = true) :
    ∃ s', Keeps s s1 s' (.tuple #[.agg (wv w vn vl).toArray, x]) ∧ WdAt s' w vn vl on ol ∧ Fr s' s [] ∧ Top M s' := by
  have s0M := none_of T F
  have key : ∀ (d : List (Nat × ABlk)), AllAt s1 (updH s d) d → (∀ i ∈ d.map (·.1), s i = none ∧ i < M) → nm1 (fun i => (updH s d i).isSome = true) vn → nm1 (fun i => (updH s d i).isSome = true) vl → LO (updH s d) 1 vn on w.ns.length (ints w.ns) → LO (updH s d) 5 vl ol w.ls.length (kc w.ls) → ∃ s', Keeps s s1 s' (.tuple #[.agg (wv w vn vl).toArray, x]) ∧ WdAt s' w vn vl on ol ∧ Fr s' s [] ∧ Top M s' := fun d ha hd n1 n2 b1 b2 => by
    refine ⟨updH s d, Keeps.upd d (fun i hi b hb => F i (by simp) b hb) ha ?_, ⟨b1.ba, b2.ba⟩, fun i _ b hb => ?_, fun i hi => ?_⟩
    · intro y hy
      simp only [List.mem_cons, List.not_mem_nil, or_false] at hy
      rcases hy with rfl | rfl
      · intro z hz
        simp only [wv, List.mem_cons, List.not_mem_nil, or_false] at hz
        rcases hz with rfl | rfl | rfl | rfl | rfl | rfl | rfl | rfl | rfl <;> first | trivial | assumption
      · exact plB.nm hx
    · rw [updH_out (fun hm => by have := (hd i hm).1; rw [hb] at this; cases this)]; exact hb
    · rw [updH_out (fun hm => by have := (hd i hm).2; omega)]; exact s0M i hi
  revert h1 h2 hs hs2
  generalize hn : w.ns.length = n
  generalize hm : w.ls.length = k
  generalize hxs : ints w.ns = xs
  generalize hys : kc w.ls = ys
  intro h1 h2 hs hs2
  rw [hn, hm, hxs, hys] at key
  have px : xs.all pl1 = true := by rw [← hxs]; exact ints_pl _
  have py : ys.all pl1 = true := by rw [← hys]; exact kc_pl _
  cases h1 with
  | nil =>
    cases h2 with
    | nil => exact key [] trivial (by intro i hi; cases hi) trivial trivial .nil .nil
    | @blk q _ _ a b => exact key [(q, .cells true 5 ys)] ⟨⟨a, nm_scal py⟩, trivial⟩ (by intro i hi; simp at hi; subst hi; exact ⟨hs2 _ rfl, T.lt a⟩) trivial (by simp [nm1, nmA, updH, AHeap.set_same]) .nil (.blk At.hit b)
  | @blk p _ _ c d =>
    cases h2 with
    | nil => exact key [(p, .cells true 1 xs)] ⟨⟨c, nm_scal px⟩, trivial⟩ (by intro i hi; simp at hi; subst hi; exact ⟨hs _ rfl, T.lt c⟩) (by simp [nm1, nmA, updH, AHeap.set_same]) trivial (.blk At.hit d) .nil
    | @blk q _ _ a b =>
      have hpq : p ≠ q := fun e => by
        subst e
        have := Option.some.inj (a.eq.symm.trans c.eq)
        injection this with _ h2 _
        cases h2
      have e1 : At (updH s [(p, .cells true 1 xs), (q, .cells true 5 ys)]) p (.cells true 1 xs) := At.miss hpq At.hit
      exact key [(p, .cells true 1 xs), (q, .cells true 5 ys)] ⟨⟨c, nm_scal px⟩, ⟨a, nm_scal py⟩, trivial⟩ (by intro i hi; simp at hi; rcases hi with rfl | rfl; exact ⟨hs _ rfl, T.lt c⟩; exact ⟨hs2 _ rfl, T.lt a⟩) (by simp [nm1, nmA, e1.eq]) (by simp [nm1, nmA, updH, AHeap.set_same]) (.blk e1 d) (.blk At.hit b)
theorem encs_bytes : ∀ (ws ns : List Int), Bytes (encs ws ns)
  | [], _ => by intro x h; simp [encs] at h
  | _ :: _, [] => by intro x h; simp [encs] at h
  | w :: ws, n :: ns => (num_bytes n w).append (encs_bytes ws ns)
theorem flat_bytes {α : Type} {f : α → List Int} (h : ∀ x, Bytes (f x)) : ∀ l : List α, Bytes (l.flatMap f)
  | [] => by intro x h; cases h
  | a :: l => by rw [List.flatMap_cons]; exact (h a).append (flat_bytes h l)
theorem enc_bytes (w : Wd) : Bytes w.enc := (encs_bytes _ _).append ((flat_bytes (fun _ => num_bytes _ _) _).append ((num_bytes _ _).append (flat_bytes (fun _ => encs_bytes _ _) _)))
end Go.Proofs.Ytnkiocnnekgioaa
