/- hand: the cells of a list of notes; a note is heard, as one law. -/
import Derived.Test.YtdjbpnpfgabdjaaHE
namespace Go.Proofs.Ytdjbpnpfgabdjaa
set_option linter.unusedVariables false
set_option linter.unusedSimpArgs false
set_option linter.unusedSectionVars false
open Go.RowKit Ab HP

theorem nc_take (l : List Note) : ∀ k, (nc l).take (k * 2) = nc (l.take k) := by
  induction l with
  | nil => intro k; simp [nc]
  | cons a l ih =>
    intro k
    cases k with
    | zero => simp [nc]
    | succ k =>
      have := ih k
      simp only [nc, List.flatMap_cons, List.take_succ_cons] at *
      rw [← this, show (k + 1) * 2 = k * 2 + 1 + 1 from by omega]; rfl
theorem nc_drop (l : List Note) : ∀ k, (nc l).drop (k * 2) = nc (l.drop k) := by
  induction l with
  | nil => intro k; simp [nc]
  | cons a l ih =>
    intro k
    cases k with
    | zero => simp [nc]
    | succ k =>
      have := ih k
      simp only [nc, List.flatMap_cons, List.drop_succ_cons] at *
      rw [← this, show (k + 1) * 2 = k * 2 + 1 + 1 from by omega]; rfl
theorem nc_get {l : List Note} {cs : List Value} {k : Nat} (hk : k < l.length) (hcs : cs.take (l.length * 2) = nc l) (d : Note) : (cs.drop (k * 2)).take 2 = [.bool (l.getD k d).1, .int .i64 (l.getD k d).2] := by
  have h1 : (cs.drop (k * 2)).take 2 = ((nc l).drop (k * 2)).take 2 := by
    rw [← hcs, List.drop_take, List.take_take, Nat.min_eq_left (by omega)]
  rw [h1, nc_drop, List.drop_eq_getElem_cons hk, show nc (l[k] :: l.drop (k + 1)) = .bool l[k].1 :: .int .i64 l[k].2 :: nc (l.drop (k + 1)) from rfl]
  simp [List.getD, hk]
theorem dcut_take {l : List Note} {k : Nat} (hk : k < l.length) : (dcut (nc l) l.length k).take ((l.length - 1) * 2) = nc (l.eraseIdx k) := by
  have hlen := nc_length l
  rw [List.eraseIdx_eq_take_drop_succ, nc_append]
  unfold dcut
  by_cases e : k + 1 = l.length
  · rw [if_pos e, O.splice_set (by rw [hlen]; simp only [List.length_cons, List.length_nil]; omega), List.append_assoc, List.take_append_of_le_length (by rw [List.length_take, hlen]; omega), List.take_take, Nat.min_self, nc_take]
    rw [show l.length - 1 = k from by omega, show l.drop (k + 1) = [] from by rw [e, List.drop_length]]
    simp [nc]
  · rw [if_neg e]
    obtain ⟨t, ht⟩ : ∃ t, t = ((nc l).drop ((k + 1) * 2)).take ((l.length - (k + 1)) * 2) := ⟨_, rfl⟩
    have htl : t.length = (l.length - (k + 1)) * 2 := by rw [ht, List.length_take, List.length_drop, hlen]; omega
    rw [← ht]
    rw [O.splice_set (by rw [splice_length, hlen]; simp only [List.length_cons, List.length_nil]; omega), List.append_assoc, List.take_append_of_le_length (by rw [List.length_take, splice_length, hlen]; omega), List.take_take, Nat.min_self]
    have := splice_take (cs := nc l) (ys := t) (k := k * 2) (by rw [htl, hlen]; omega)
    rw [htl, show k * 2 + (l.length - (k + 1)) * 2 = (l.length - 1) * 2 from by omega] at this
    have e2 : (nc (l.drop (k + 1))).take ((l.length - (k + 1)) * 2) = nc (l.drop (k + 1)) := List.take_of_length_le (by rw [nc_length, List.length_drop]; exact Nat.le_refl _)
    rw [this, nc_take, ht, nc_drop, e2]
theorem dcut_length (cs : List Value) (n i : Nat) : (dcut cs n i).length = cs.length := by
  unfold dcut; rw [splice_length]; split
  · rfl
  · rw [splice_length]
theorem dcut_pl {cs : List Value} {n i : Nat} (h : cs.all pl1 = true) : (dcut cs n i).all pl1 = true := by
  unfold dcut
  refine splice_all_pl ?_ rfl
  split
  · exact h
  · refine splice_all_pl h ?_
    rw [List.all_eq_true] at h ⊢
    exact fun x hx => h x (List.mem_of_mem_drop (List.mem_of_mem_take hx))
theorem Way.open {sb s : AHeap} {j : Nat} {v : Value} {on : Option Nat} {l : List Note} (h : Way sb s j v on l) (hl : l.length ≠ 0) :
    ∃ q c cs, v = .slice (some ⟨q, 0, none⟩) l.length c ∧ on = some q ∧ At s q (.cells true 2 cs) ∧ l.length ≤ c ∧ cs.length = c * 2 ∧ cs.take (l.length * 2) = nc l := by
  obtain ⟨w, _, _⟩ := h
  revert w hl
  generalize l.length = n
  generalize hx : nc l = xs
  intro hl w
  cases w with
  | nil => exact absurd rfl hl
  | blk h a b c => exact ⟨_, _, _, rfl, rfl, h, a, b, c⟩
/-- The value of a way with nothing on it has length 0. -/
theorem Way.len {sb s : AHeap} {j : Nat} {v : Value} {on : Option Nat} {l : List Note} (h : Way sb s j v on l) : ∃ A c, v = .slice A l.length c := by
  obtain ⟨w, _, _⟩ := h
  revert w
  generalize l.length = n
  generalize hx : nc l = xs
  intro w
  cases w with
  | nil => exact ⟨_, _, rfl⟩
  | blk => exact ⟨_, _, rfl⟩

def PE (sb s : AHeap) (j : Nat) (limit : Int) (x : Pr) : Prop := ∃ v0 v1 o0 o1, PH sb s j limit x v0 v1 o0 o1
theorem fr_set {s sb : AHeap} {j : Nat} {b : ABlk} (hF : Fr s sb []) (hj : sb j = none) : Fr (s.set j b) sb [] := Fr.new (by unfold Free; exact hj) hF
def iv (i : Bool) : Int := if i then 1 else 0
theorem hear_step {sb s : AHeap} {j M : Nat} {limit : Int} {x : Pr} {i : Bool} {n : Note} (hP : PE sb s j limit x) (hM : Top M s) (hF : Fr s sb []) (hm : ∀ i, (x.h i).May) (hl : 1 ≤ limit ∧ limit ≤ 2147483647) (hb : x.notes ≤ 900000) :
    ∃ s2, ACall Try.prog 29 [.pointer (some ⟨j, 0, none⟩), .int .i64 (iv i), nv n] s undef s2 ∧ PE sb s2 j limit (hear limit x i n) ∧ Top (M + 1) s2 ∧ Fr s2 sb [] ∧ Ext s2 s := by
  obtain ⟨v0, v1, o0, o1, h⟩ := hP
  have hj : j < M := hM.lt h.p
  have hb0 : x.w0.length ≤ 900000 := by unfold Pr.notes at hb; omega
  have hb1 : x.w1.length ≤ 900000 := by unfold Pr.notes at hb; omega
  have hm0 : x.h0.May := hm false
  have hm1 : x.h1.May := hm true
  have topj : ∀ b, Top (M + 1) (s.set j b) := fun b => (hM.set hj).mono (by omega)
  obtain ⟨hel, p⟩ := n
  cases i with
  | false =>
    cases hel with
    | false => exact ⟨_, hear_wel0 h hm1, ⟨v0, v1, o0, o1, h.setH _ _⟩, topj _, fr_set hF h.j0, h.ext _ _⟩
    | true =>
      cases he : (hello limit x.h1 p).2 with
      | false =>
        refine ⟨_, hear_no0 h hm1 hl he, ?_, topj _, fr_set hF h.j0, h.ext _ _⟩
        have : hear limit x false (true, p) = ⟨x.h0, (hello limit x.h1 p).1, x.w0, x.w1⟩ := by simp [hear, Pr.h, Pr.setH, he]
        rw [this]; exact ⟨v0, v1, o0, o1, h.setH _ _⟩
      | true =>
        obtain ⟨s2, v2, o2, c, a, b, d⟩ := hear_yes0 h hM hm1 hl he hF hb1
        refine ⟨s2, c, ?_, b, d⟩
        have : hear limit x false (true, p) = ⟨x.h0, (hello limit x.h1 p).1, x.w0, x.w1 ++ [(false, p)]⟩ := by simp [hear, Pr.h, Pr.w, Pr.setH, Pr.setW, he]
        rw [this]; exact ⟨v0, v2, o0, o2, a⟩
  | true =>
    cases hel with
    | false => exact ⟨_, hear_wel1 h hm0, ⟨v0, v1, o0, o1, h.setH _ _⟩, topj _, fr_set hF h.j0, h.ext _ _⟩
    | true =>
      cases he : (hello limit x.h0 p).2 with
      | false =>
        refine ⟨_, hear_no1 h hm0 hl he, ?_, topj _, fr_set hF h.j0, h.ext _ _⟩
        have : hear limit x true (true, p) = ⟨(hello limit x.h0 p).1, x.h1, x.w0, x.w1⟩ := by simp [hear, Pr.h, Pr.setH, he]
        rw [this]; exact ⟨v0, v1, o0, o1, h.setH _ _⟩
      | true =>
        obtain ⟨s2, v2, o2, c, a, b, d⟩ := hear_yes1 h hM hm0 hl he hF hb0
        refine ⟨s2, c, ?_, b, d⟩
        have : hear limit x true (true, p) = ⟨(hello limit x.h0 p).1, x.h1, x.w0 ++ [(false, p)], x.w1⟩ := by simp [hear, Pr.h, Pr.w, Pr.setH, Pr.setW, he]
        rw [this]; exact ⟨v2, v1, o2, o1, a⟩
end Go.Proofs.Ytdjbpnpfgabdjaa
