/- Forests, plain: who is reached, round by round and one behind the other; ways by those ahead; lists of nodes. -/
import Derived.Test.YtnbgeodignljfaaTreePlain
import Derived.Test.YtnbgeodignljfaaJoinPlain
namespace Go.Proofs.Ytnbgeodignljfaa.TP
set_option linter.unusedVariables false
set_option linter.unusedSimpArgs false
set_option linter.unusedSectionVars false
open JP (g In)
/-! ### rounds -/
theorem Way.pre {l : List E} {a x : Int} {p : List Int} (h : Way l a x p) (hl : 2 ≤ p.length) : ∃ y q, Way l a y q ∧ q.length + 1 = p.length ∧ Adj l y x := by
  have hr := h.rev
  cases hr' : p.reverse with
  | nil => rw [List.reverse_eq_nil_iff] at hr'; subst hr'; simp at hl
  | cons z t =>
    rw [hr'] at hr
    have hlen := congrArg List.length hr'
    simp only [List.length_reverse, List.length_cons] at hlen
    cases hr with
    | one => simp at hlen; omega
    | cons ha hn r => exact ⟨_, _, r.rev, by simp; omega, ha.symm⟩
/-- What is reached after some rounds. -/
structure Rnd (l : List E) (a : Int) (n : Nat) (r : Nat → Bool) : Prop where
  sound : ∀ i, r i = true → Conn l a (i : Nat)
  far : ∀ x p, Way l a x p → p.length ≤ n + 1 → r x.toNat = true
/-- And in the midst of one. -/
structure Mid (l : List E) (a : Int) (n i : Nat) (r : Nat → Bool) : Prop where
  sound : ∀ i, r i = true → Conn l a (i : Nat)
  far : ∀ x p, Way l a x p → p.length ≤ n + 1 → r x.toNat = true
  more : ∀ x p y e, Way l a x p → p.length ≤ n + 1 → e ∈ l.take i → e.has x y → r y.toNat = true
variable {l : List E} {a : Int}
theorem Rnd.start {r : Nat → Bool} (ha : Node a) (hr : ∀ i, r i = true ↔ (i : Int) = a) : Rnd l a 0 r where
  sound i h := by rw [(hr i).1 h]; exact .refl _
  far x p h hp := by
    cases h with
    | one => exact (hr _).2 (by have := ha.1; omega)
    | cons _ _ r' => obtain ⟨t, ht⟩ := r'.head; subst ht; simp at hp
theorem Rnd.mid {n : Nat} {r : Nat → Bool} (h : Rnd l a n r) : Mid l a n 0 r := ⟨h.sound, h.far, fun x p y e _ _ he => by simp at he⟩
theorem Mid.rnd {n i : Nat} {r : Nat → Bool} (h : Mid l a n i r) (hi : l.length ≤ i) : Rnd l a (n + 1) r where
  sound := h.sound
  far x p hw hp := by
    by_cases hs : p.length ≤ n + 1
    · exact h.far x p hw hs
    · obtain ⟨y, q, hq, hql, e, he, hh⟩ := hw.pre (by omega)
      exact h.more y q x e hq (by omega) (by rw [List.take_of_length_le hi]; exact he) hh
theorem Mid.skip {n i : Nat} {r : Nat → Bool} {e : E} (h : Mid l a n i r) (he : l[i]? = some e) (h1 : r e.a.toNat = false) (h2 : r e.b.toNat = false) : Mid l a n (i + 1) r where
  sound := h.sound
  far := h.far
  more x p y f hw hp hf hh := by
    rw [List.take_add_one, he] at hf
    rcases List.mem_append.1 hf with hf | hf
    · exact h.more x p y f hw hp hf hh
    · obtain rfl : f = e := by simpa using hf
      have := h.far x p hw hp
      rcases hh with ⟨h3, _⟩ | ⟨_, h3⟩ <;> rw [← h3] at this <;> simp_all
theorem Mid.next {n i : Nat} {r : Nat → Bool} {e : E} (h : Mid l a n i r) (he : l[i]? = some e) (hn : Node e.a ∧ Node e.b) (h1 : r e.a.toNat = true ∨ r e.b.toNat = true) :
    Mid l a n (i + 1) (fun j => decide (j = e.b.toNat) || (decide (j = e.a.toNat) || r j)) where
  sound j hj := by
    have hm : e ∈ l := List.mem_of_getElem? he
    have n1 : ((e.a.toNat : Nat) : Int) = e.a := by have := hn.1.1; omega
    have n2 : ((e.b.toNat : Nat) : Int) = e.b := by have := hn.2.1; omega
    have s : Conn l e.a e.b := .one ⟨e, hm, .inl ⟨rfl, rfl⟩⟩
    have c : Conn l a e.a ∧ Conn l a e.b := by
      rcases h1 with h1 | h1
      · have := h.sound _ h1; rw [n1] at this; exact ⟨this, this.trans s⟩
      · have := h.sound _ h1; rw [n2] at this; exact ⟨this.trans s.symm, this⟩
    simp only [Bool.or_eq_true, decide_eq_true_eq] at hj
    rcases hj with rfl | rfl | hj
    · rw [n2]; exact c.2
    · rw [n1]; exact c.1
    · exact h.sound j hj
  far x p hw hp := by simp [h.far x p hw hp]
  more x p y f hw hp hf hh := by
    rw [List.take_add_one, he] at hf
    rcases List.mem_append.1 hf with hf | hf
    · simp [h.more x p y f hw hp hf hh]
    · obtain rfl : f = e := by simpa using hf
      rcases hh with ⟨_, h3⟩ | ⟨h3, _⟩ <;> simp [h3]
noncomputable def reachB (l : List E) (a : Int) (i : Nat) : Bool := open Classical in decide (Node a ∧ Conn l a i)
theorem reachB_iff {i : Nat} : reachB l a i = true ↔ Node a ∧ Conn l a i := by simp [reachB]
theorem Rnd.done {r : Nat → Bool} (hl : ∀ e ∈ l, Node e.a ∧ Node e.b) (ha : Node a) {n : Nat} (hn : 63 ≤ n) (h : Rnd l a n r) : ∀ i, r i = reachB l a i := fun i => by
  rw [Bool.eq_iff_iff, reachB_iff]
  refine ⟨fun hr => ⟨ha, h.sound i hr⟩, fun ⟨_, hc⟩ => ?_⟩
  obtain ⟨p, hp⟩ := Way.ex hc
  have := hp.short hl ha
  exact h.far i p hp (by omega)
/-! ### lists of nodes -/
def lkN (f : Nat → Bool) : Nat → List Int
  | 0 => []
  | k + 1 => lkN f k ++ if f (k + 1) = true then [((k + 1 : Nat) : Int)] else []
theorem lkN_mem {f : Nat → Bool} {x : Int} : ∀ {k : Nat}, x ∈ lkN f k ↔ 1 ≤ x ∧ x ≤ k ∧ f x.toNat = true
  | 0 => by simp [lkN]; omega
  | k + 1 => by
    rw [lkN, List.mem_append, lkN_mem (k := k)]
    by_cases hf : f (k + 1) = true
    · rw [if_pos hf, List.mem_singleton]
      constructor
      · rintro (⟨h1, h2, h3⟩ | rfl)
        · exact ⟨h1, by omega, h3⟩
        · exact ⟨by omega, Int.le_refl _, by simpa using hf⟩
      · rintro ⟨h1, h2, h3⟩
        by_cases hx : x = ((k + 1 : Nat) : Int)
        · exact .inr hx
        · exact .inl ⟨h1, by omega, h3⟩
    · rw [if_neg hf]
      constructor
      · rintro (⟨h1, h2, h3⟩ | h)
        · exact ⟨h1, by omega, h3⟩
        · cases h
      · rintro ⟨h1, h2, h3⟩
        by_cases hx : x = ((k + 1 : Nat) : Int)
        · subst hx; exact absurd h3 (by simpa using hf)
        · exact .inl ⟨h1, by omega, h3⟩
theorem lkN_len {f : Nat → Bool} : ∀ {k : Nat}, (lkN f k).length ≤ k
  | 0 => Nat.le_refl _
  | k + 1 => by
    rw [lkN, List.length_append]
    have := lkN_len (f := f) (k := k)
    split <;> simp <;> omega
theorem lkN_nodup {f : Nat → Bool} : ∀ {k : Nat}, (lkN f k).Nodup
  | 0 => List.nodup_nil
  | k + 1 => by
    rw [lkN, List.nodup_append]
    refine ⟨lkN_nodup, by split <;> simp, fun x hx y hy e => ?_⟩
    subst e
    have := (lkN_mem.1 hx).2.1
    split at hy
    · rw [List.mem_singleton.1 hy] at this; omega
    · cases hy
theorem lkN_congr {f f' : Nat → Bool} : ∀ {k : Nat}, (∀ i, 1 ≤ i → i ≤ k → f i = f' i) → lkN f k = lkN f' k
  | 0, _ => rfl
  | k + 1, h => by rw [lkN, lkN, lkN_congr fun i h1 h2 => h i h1 (by omega), h (k + 1) (by omega) (Nat.le_refl _)]
theorem lkN_split {f f1 f2 : Nat → Bool} : ∀ {k : Nat}, (∀ i, 1 ≤ i → i ≤ k → f i = (f1 i || f2 i)) → (∀ i, 1 ≤ i → i ≤ k → ¬ (f1 i = true ∧ f2 i = true)) → (lkN f k).length = (lkN f1 k).length + (lkN f2 k).length
  | 0, _, _ => rfl
  | k + 1, h, h2 => by
    have ih := lkN_split (k := k) (fun i a b => h i a (by omega)) (fun i a b => h2 i a (by omega))
    have a := h (k + 1) (by omega) (Nat.le_refl _)
    have b := h2 (k + 1) (by omega) (Nat.le_refl _)
    simp only [lkN, List.length_append, ih, a]
    cases h1 : f1 (k + 1) <;> cases h3 : f2 (k + 1) <;> simp_all <;> omega
/-- Those that one is linked to. -/
noncomputable def side (l : List E) (a : Int) : List Int := lkN (reachB l a) 64
theorem side_mem (hl : ∀ e ∈ l, Node e.a ∧ Node e.b) (ha : Node a) {x : Int} : x ∈ side l a ↔ Conn l a x := by
  unfold side
  rw [lkN_mem, reachB_iff]
  constructor
  · rintro ⟨h1, h2, _, h3⟩
    rwa [show ((x.toNat : Nat) : Int) = x from by omega] at h3
  · intro h
    have := h.node hl ha
    exact ⟨this.1, this.2, ha, by rwa [show ((x.toNat : Nat) : Int) = x from by have := this.1; omega]⟩

/-! ### one behind the other -/
structure Bfs (l : List E) (root : Int) (U cl q : List Int) : Prop where
  len : U.length = 65
  ord : q.Nodup
  first : q[0]? = some root
  node : ∀ x ∈ q, Node x
  mem : ∀ x, 0 ≤ x → x ≤ 64 → (g U x ≠ 0 ↔ x ∈ q)
  up : ∀ k x, q[k]? = some x → k ≠ 0 → ∃ j, j < k ∧ q[j]? = some (g U x) ∧ Adj l x (g U x)
  root : g U root = root
  closed : ∀ n ∈ cl, ∀ y, Adj l n y → y ∈ q
theorem g_zeros (n : Nat) (x : Int) : g (List.replicate n 0) x = 0 := by
  unfold g; rw [List.getD_eq_getElem?_getD, List.getElem?_replicate]; split <;> rfl
theorem Bfs.start {root : Int} (hr : Node root) : Bfs l root ((List.replicate 65 (0 : Int)).set root.toNat root) [] [root] where
  len := by simp
  ord := by simp
  first := rfl
  node x h := by rw [List.mem_singleton.1 h]; exact hr
  mem x h0 h1 := by
    have hin : In (List.replicate 65 (0 : Int)) root := ⟨by have := hr.1; omega, by simp; have := hr.2; omega⟩
    by_cases hx : x = root
    · subst hx; rw [JP.g_set_same hin]; simp; have := hr.1; omega
    · rw [JP.g_set_other (by have := hr.1; omega) h0 hx, g_zeros]; simp [hx]
  up k x h hk := by cases k with | zero => exact absurd rfl hk | succ k => simp at h
  root := JP.g_set_same ⟨by have := hr.1; omega, by simp; have := hr.2; omega⟩
  closed n h := by cases h
theorem Bfs.push {root : Int} {U cl q : List Int} (h : Bfs l root U cl q) {n o : Int} (hn : n ∈ q) (ha : Adj l n o) (ho : Node o) (hg : g U o = 0) : Bfs l root (U.set o.toNat n) cl (q ++ [o]) := by
  have hnn := h.node n hn
  have hin : In U o := ⟨by have := ho.1; omega, by rw [h.len]; have := ho.2; omega⟩
  have hoq : o ∉ q := fun hm => (h.mem o (by have := ho.1; omega) ho.2).2 hm hg
  have hoth : ∀ x, x ∈ q → g (U.set o.toNat n) x = g U x := fun x hx => JP.g_set_other (by have := ho.1; omega) (by have := (h.node x hx).1; omega) (fun e => hoq (e ▸ hx))
  have hroot : root ∈ q := List.mem_of_getElem? h.first
  have hql : 0 < q.length := List.length_pos_of_mem hn
  refine ⟨by simp [h.len], ?_, ?_, ?_, ?_, ?_, ?_, ?_⟩
  · rw [List.nodup_append]
    exact ⟨h.ord, by simp, fun x hx y hy e => hoq (by rw [List.mem_singleton.1 hy] at e; exact e ▸ hx)⟩
  · rw [List.getElem?_append_left hql]; exact h.first
  · intro x hx
    rcases List.mem_append.1 hx with hx | hx
    · exact h.node x hx
    · rw [List.mem_singleton.1 hx]; exact ho
  · intro x h0 h1
    by_cases hx : x = o
    · subst hx; rw [JP.g_set_same hin]; simp; have := hnn.1; omega
    · rw [JP.g_set_other (by have := ho.1; omega) h0 hx, h.mem x h0 h1]; simp [hx]
  · intro k x hk hk0
    rcases Nat.lt_or_ge k q.length with hlt | hge
    · rw [List.getElem?_append_left hlt] at hk
      obtain ⟨j, hj, hjq, hadj⟩ := h.up k x hk hk0
      rw [hoth x (List.mem_of_getElem? hk)]
      exact ⟨j, hj, by rw [List.getElem?_append_left (by omega)]; exact hjq, hadj⟩
    · rw [List.getElem?_append_right hge] at hk
      have hk2 : k = q.length := by
        rcases Nat.lt_or_ge (k - q.length) 1 with h1 | h1
        · omega
        · rw [List.getElem?_eq_none (by simpa using h1)] at hk; cases hk
      subst hk2
      obtain rfl : o = x := by simpa using hk
      rw [JP.g_set_same hin]
      obtain ⟨j, hj, hjn⟩ := List.mem_iff_getElem.1 hn
      exact ⟨j, hj, by rw [List.getElem?_append_left hj, List.getElem?_eq_getElem hj, hjn], ha.symm⟩
  · rw [hoth root hroot]; exact h.root
  · intro m hm y hy; exact List.mem_append_left _ (h.closed m hm y hy)
theorem Bfs.close {root : Int} {U cl q : List Int} (h : Bfs l root U cl q) {n : Int} (hc : ∀ y, Adj l n y → y ∈ q) : Bfs l root U (cl ++ [n]) q :=
  ⟨h.len, h.ord, h.first, h.node, h.mem, h.up, h.root, fun m hm y hy => (List.mem_append.1 hm).elim (fun hm => h.closed m hm y hy) (fun hm => by rw [List.mem_singleton.1 hm] at hy; exact hc y hy)⟩
theorem Bfs.done {root : Int} {U q : List Int} (h : Bfs l root U q q) {x : Int} : x ∈ q ↔ Conn l root x := by
  have hroot : root ∈ q := List.mem_of_getElem? h.first
  constructor
  · intro hx
    obtain ⟨k, hk, rfl⟩ := List.mem_iff_getElem.1 hx
    have key : ∀ (k : Nat) (y : Int), q[k]? = some y → Conn l root y := by
      intro k
      induction k using Nat.strongRecOn with
      | ind k ih =>
        intro y hy
        by_cases hk : k = 0
        · subst hk; rw [h.first] at hy; obtain rfl := Option.some.inj hy; exact .refl _
        · obtain ⟨j, hj, hjq, hadj⟩ := h.up k y hy hk
          exact (ih j hj _ hjq).trans (.one hadj.symm)
    exact key k _ (List.getElem?_eq_getElem hk)
  · intro hc
    have key : ∀ {s t : Int}, Conn l s t → s ∈ q → t ∈ q := by
      intro s t hst
      induction hst with
      | refl => exact id
      | step a _ ih => exact fun hs => ih (h.closed _ hs _ a)
    exact key hc hroot
theorem Bfs.reach {root : Int} {U q : List Int} (h : Bfs l root U q q) (hr : Node root) {i : Nat} (hi : i ≤ 64) : decide (g U i ≠ 0) = reachB l root i := by
  rw [Bool.eq_iff_iff, decide_eq_true_iff, reachB_iff, h.mem i (by omega) (by omega), h.done]
  exact ⟨fun h => ⟨hr, h⟩, fun h => h.2⟩
/-- Each one's way by those ahead. -/
inductive Ups (U : List Int) (root : Int) : Int → List Int → Prop
  | one : Ups U root root [root]
  | cons {a : Int} {p : List Int} (hn : a ≠ root) (r : Ups U root (g U a) p) : Ups U root a (a :: p)
theorem Bfs.ups {root : Int} {U cl q : List Int} (h : Bfs l root U cl q) : ∀ {k : Nat} {x : Int}, q[k]? = some x → ∃ p, Ups U root x p ∧ Way l x root p ∧ ∀ y ∈ p, ∃ j, j ≤ k ∧ q[j]? = some y := by
  intro k
  induction k using Nat.strongRecOn with
  | ind k ih =>
    intro x hx
    by_cases hk : k = 0
    · subst hk
      rw [h.first] at hx
      obtain rfl := Option.some.inj hx
      exact ⟨_, .one, .one _, fun y hy => ⟨0, Nat.le_refl _, by rw [List.mem_singleton.1 hy]; exact h.first⟩⟩
    · obtain ⟨j, hj, hjq, hadj⟩ := h.up k x hx hk
      obtain ⟨p, hp1, hp2, hp3⟩ := ih j hj hjq
      have inj : ∀ {i j : Nat} {t : Int}, q[i]? = some t → q[j]? = some t → i = j := fun {i j t} hi hj => by
        obtain ⟨a1, a2⟩ := List.getElem?_eq_some_iff.1 hi
        obtain ⟨b1, b2⟩ := List.getElem?_eq_some_iff.1 hj
        exact (List.getElem_inj (h₀ := a1) (h₁ := b1) h.ord).1 (a2.trans b2.symm)
      refine ⟨x :: p, .cons (fun e => ?_) hp1, .cons hadj (fun hm => ?_) hp2, fun y hy => ?_⟩
      · subst e; exact hk (inj hx h.first)
      · obtain ⟨i, hi, hiq⟩ := hp3 x hm
        have := inj hx hiq; omega
      · rcases List.mem_cons.1 hy with rfl | hy
        · exact ⟨k, Nat.le_refl _, hx⟩
        · obtain ⟨i, hi, hiq⟩ := hp3 y hy
          exact ⟨i, by omega, hiq⟩
end Go.Proofs.Ytnbgeodignljfaa.TP
