/- Forests, plain: the heaviest, all that is behind a node, swaps, sides. -/
import Derived.Test.YtnbgeodignljfaaTreeBfs
namespace Go.Proofs.Ytnbgeodignljfaa.TP
set_option linter.unusedVariables false
set_option linter.unusedSimpArgs false
set_option linter.unusedSectionVars false
/-! ### the order of edges -/
def less (e f : E) : Prop := e.w < f.w ∨ (e.w = f.w ∧ (e.a < f.a ∨ (e.a = f.a ∧ e.b < f.b)))
instance {e f : E} : Decidable (less e f) := by unfold less; infer_instance
theorem less_irrefl {e : E} : ¬ less e e := by unfold less; omega
theorem less_trans {e f g : E} (h : less e f) (k : less f g) : less e g := by unfold less at *; omega
theorem less_tri (e f : E) : less e f ∨ e = f ∨ less f e := by
  obtain ⟨a, b, w⟩ := e
  obtain ⟨c, d, v⟩ := f
  by_cases h : a = c ∧ b = d ∧ w = v
  · obtain ⟨rfl, rfl, rfl⟩ := h; exact .inr (.inl rfl)
  · unfold less
    simp only
    omega
/-- The last by the order. -/
def Top1 (L : List E) (h : E) : Prop := h ∈ L ∧ ∀ e ∈ L, ¬ less h e
theorem Top1.uniq {L L' : List E} {h h' : E} (hm : ∀ e, e ∈ L ↔ e ∈ L') (a : Top1 L h) (b : Top1 L' h') : h = h' := by
  rcases less_tri h h' with c | c | c
  · exact absurd c (a.2 h' ((hm h').2 b.1))
  · exact c
  · exact absurd c (b.2 h ((hm h).1 a.1))
theorem Top1.one (e : E) : Top1 [e] e := ⟨List.mem_singleton.2 rfl, fun f hf => by rw [List.mem_singleton.1 hf]; exact less_irrefl⟩
theorem Top1.up {L : List E} {h e : E} (a : Top1 L h) (hl : less h e) : Top1 (L ++ [e]) e :=
  ⟨by simp, fun f hf => by
    rcases List.mem_append.1 hf with hf | hf
    · exact fun k => a.2 f hf (less_trans hl k)
    · rw [List.mem_singleton.1 hf]; exact less_irrefl⟩
theorem Top1.stay {L : List E} {h e : E} (a : Top1 L h) (hl : ¬ less h e) : Top1 (L ++ [e]) h :=
  ⟨by simp [a.1], fun f hf => by
    rcases List.mem_append.1 hf with hf | hf
    · exact a.2 f hf
    · rw [List.mem_singleton.1 hf]; exact hl⟩
/-! ### all that is behind a node -/
variable {l : List E}
theorem below_iff (hc : Cut l) {a root w1 : Int} {t : List Int} (hw : Way l a root (a :: w1 :: t)) {e : E} (he : e ∈ l) (hh : e.has a w1) {n : Int} {p : List Int} (hp : Way l root n p) : a ∈ p ↔ Conn (rm l e) a n := by
  have hnd := List.nodup_cons.1 hw.nodup
  have hnd1 := hnd.2
  have hw1 : Way l w1 root (w1 :: t) := hw.back (u := [a]) rfl
  have nocut : ¬ Conn (rm l e) a w1 := fun h => by
    rcases hh with ⟨rfl, rfl⟩ | ⟨rfl, rfl⟩
    · exact hc e he h
    · exact hc e he h.symm
  constructor
  · intro ha
    obtain ⟨u, v, rfl⟩ := List.append_of_mem ha
    have h1 := Way.uniq hc hw.rev (hp.front rfl)
    have hw1u : w1 ∈ u := by
      have hm : w1 ∈ u ++ [a] := by rw [h1]; simp
      rcases List.mem_append.1 hm with hm | hm
      · exact hm
      · exact absurd (by rw [List.mem_singleton.1 hm]; exact List.mem_cons_self) hnd.1
    have hnp := List.nodup_append.1 hp.nodup
    refine (Way.avoid (e := e) (hp.back rfl) fun ho => ?_).conn
    have hv : w1 ∈ a :: v := by
      rcases hh with ⟨_, h1⟩ | ⟨h1, _⟩
      · exact h1 ▸ ho.mem.2
      · exact h1 ▸ ho.mem.1
    exact hnp.2.2 w1 hw1u w1 hv rfl
  · intro hcn
    obtain ⟨q, hq⟩ := Way.ex hcn.symm
    have hr : Way (rm l e) w1 root (w1 :: t) := Way.avoid hw1 fun ho => by
      have : a ∈ w1 :: t := by
        rcases hh with ⟨h1, _⟩ | ⟨_, h1⟩
        · exact h1 ▸ ho.mem.1
        · exact h1 ▸ ho.mem.2
      exact hnd.1 this
    have hall := (hq.mono rm_sub).app hw fun x hx hx2 => by
      have c1 := hq.conn_mem x hx
      have c2 := hr.conn_mem x hx2
      exact nocut (c1.symm.trans (c2.trans hr.conn.symm))
    have := Way.uniq hc hp hall.rev
    rw [← this]
    exact List.mem_reverse.2 (List.mem_append_left _ hq.mem_last)
/-! ### swaps -/
theorem Conn.lift {l' : List E} (h : ∀ f ∈ l, Conn l' f.a f.b) {x y : Int} (hc : Conn l x y) : Conn l' x y := by
  induction hc with
  | refl => exact .refl _
  | step a _ ih =>
    obtain ⟨f, hf, hh⟩ := a
    rcases hh with ⟨rfl, rfl⟩ | ⟨rfl, rfl⟩
    · exact (h f hf).trans ih
    · exact (h f hf).symm.trans ih
theorem swap_ok (hg : Good l) (hc : Cut l) {e h : E} (hem : e.may) (hcon : Conn l e.a e.b) (hh : h ∈ l) (hon : ¬ Conn (rm l h) e.a e.b) :
    (∀ f ∈ rm l h, ¬ (f.a = e.a ∧ f.b = e.b)) ∧ Good (e :: rm l h) ∧ Forest (e :: rm l h) ∧ ∀ x y, Conn l x y ↔ Conn (e :: rm l h) x y := by
  have h1 : ∀ f ∈ rm l h, ¬ (f.a = e.a ∧ f.b = e.b) := fun f hf k => hon (.one ⟨f, hf, .inl k⟩)
  have hgn : Good (e :: rm l h) := ⟨fun f hf => by
      rcases List.mem_cons.1 hf with rfl | hf
      · exact hem
      · exact hg.1 f (rm_sub f hf), List.pairwise_cons.2 ⟨fun f hf k => h1 f hf ⟨k.1.symm, k.2.symm⟩, (hg.rm h).2⟩⟩
  have hnd := hgn.2.nodup
  refine ⟨h1, hgn, ?_, fun x y => ⟨fun hxy => ?_, fun hxy => ?_⟩⟩
  · have c1 : Cut (rm l h) := hc.sub rm_sub
    have f1 : Forest (rm l h) := c1.forest (hg.rm h).2.nodup
    have f2 : Forest (rm l h ++ [e]) := Forest.snoc.2 ⟨f1, hon⟩
    have hn2 : (rm l h ++ [e]).Nodup := by
      rw [List.nodup_append]
      exact ⟨(hg.rm h).2.nodup, by simp, fun f hf g hg' k => by rw [List.mem_singleton.1 hg'] at k; exact (List.nodup_cons.1 hnd).1 (k ▸ hf)⟩
    exact ((f2.cut hn2).sub fun f hf => by
      rcases List.mem_cons.1 hf with rfl | hf
      · simp
      · exact List.mem_append_left _ hf).forest hnd
  · refine hxy.lift fun f hf => ?_
    by_cases hfh : f = h
    · subst hfh
      have s : Conn (e :: rm l f) e.a e.b := .one ⟨e, List.mem_cons_self, .inl ⟨rfl, rfl⟩⟩
      have m : ∀ {x y : Int}, Conn (rm l f) x y → Conn (e :: rm l f) x y := fun h => h.mono fun g hg => List.mem_cons_of_mem _ hg
      rcases Conn.add (l := rm l f) (e := f) (fun g hg => by
        by_cases k : g = f
        · exact .inl k
        · exact .inr (mem_rm.2 ⟨hg, k⟩)) hcon with k | ⟨k1, k2⟩ | ⟨k1, k2⟩
      · exact absurd k hon
      · exact (m k1).symm.trans (s.trans (m k2).symm)
      · exact (m k2).trans (s.symm.trans (m k1))
    · exact .one ⟨f, List.mem_cons_of_mem _ (mem_rm.2 ⟨hf, hfh⟩), .inl ⟨rfl, rfl⟩⟩
  · refine hxy.lift fun f hf => ?_
    rcases List.mem_cons.1 hf with rfl | hf
    · exact hcon
    · exact .one ⟨f, rm_sub f hf, .inl ⟨rfl, rfl⟩⟩
/-! ### sides -/
theorem cut_iff {e : E} (he : e ∈ l) {x : Int} : Conn l e.a x ↔ Conn (rm l e) e.a x ∨ Conn (rm l e) e.b x := by
  constructor
  · intro h
    rcases Conn.add (l := rm l e) (e := e) (fun g hg => by
      by_cases k : g = e
      · exact .inl k
      · exact .inr (mem_rm.2 ⟨hg, k⟩)) h with k | ⟨_, k⟩ | ⟨_, k⟩
    · exact .inl k
    · exact .inr k
    · exact .inl k
  · rintro (h | h)
    · exact h.mono rm_sub
    · exact (Conn.one ⟨e, he, .inl ⟨rfl, rfl⟩⟩).trans (h.mono rm_sub)
theorem cut_apart (hc : Cut l) {e : E} (he : e ∈ l) {x : Int} : ¬ (Conn (rm l e) e.a x ∧ Conn (rm l e) e.b x) := fun h => hc e he (h.1.trans h.2.symm)
theorem cut_len (hg : Good l) (hc : Cut l) {e : E} (he : e ∈ l) : (side l e.a).length = (side (rm l e) e.a).length + (side (rm l e) e.b).length := by
  have hn := hg.1 e he
  unfold side
  refine lkN_split (fun i _ _ => ?_) fun i _ _ h => ?_
  · rw [Bool.eq_iff_iff, Bool.or_eq_true, reachB_iff, reachB_iff, reachB_iff, cut_iff he]
    exact ⟨fun h => h.2.elim (fun k => .inl ⟨hn.1, k⟩) (fun k => .inr ⟨hn.2.1, k⟩), fun h => ⟨hn.1, h.elim (fun k => .inl k.2) (fun k => .inr k.2)⟩⟩
  · rw [reachB_iff, reachB_iff] at h
    exact cut_apart hc he ⟨h.1.2, h.2.2⟩
theorem cut_count (hg : Good l) (hc : Cut l) {e : E} (he : e ∈ l) {x : Int} (hx : x ∈ side l e.a) : (side (rm l e) e.a).count x + (side (rm l e) e.b).count x = 1 := by
  have hn := hg.1 e he
  have hl : ∀ e ∈ l, Node e.a ∧ Node e.b := fun f hf => ⟨(hg.1 f hf).1, (hg.1 f hf).2.1⟩
  have hr : ∀ f ∈ rm l e, Node f.a ∧ Node f.b := fun f hf => hl f (rm_sub f hf)
  rw [side_mem hl hn.1, cut_iff he] at hx
  have n1 : (side (rm l e) e.a).Nodup := lkN_nodup
  have n2 : (side (rm l e) e.b).Nodup := lkN_nodup
  have m1 := side_mem hr hn.1 (x := x)
  have m2 := side_mem hr hn.2.1 (x := x)
  have ap := cut_apart hc he (x := x)
  rw [← m1, ← m2] at hx
  rw [← m1, ← m2] at ap
  rcases hx with hx | hx
  · rw [n1.count, n2.count, if_pos hx, if_neg fun k => ap ⟨hx, k⟩]
  · rw [n1.count, n2.count, if_pos hx, if_neg fun k => ap ⟨k, hx⟩]
end Go.Proofs.Ytnbgeodignljfaa.TP
