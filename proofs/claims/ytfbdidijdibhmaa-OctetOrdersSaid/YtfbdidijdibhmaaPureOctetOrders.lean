/- For any two numbers of a width: what is put is taken, and bytes are ordered as the numbers are. What is left of that statement when the program's machine is taken away. -/
import Derived.Test.YtfbdidijdibhmaaOctLimOctetOrders
set_option linter.unusedVariables false
namespace Go.Proofs.Ytfbdidijdibhmaa.Pure
open Go.RowKit Go.Proofs.Ytfbdidijdibhmaa.POctetOrders Go.Proofs.YtfbdidijdibhmaaW.PrintWords Go.Proofs.YtfbdidijdibhmaaW.PrintLast Go.Proofs.Ytfbdidijdibhmaa.EvLib Go.Proofs.Ytfbdidijdibhmaa.OctPlain

theorem take_num (n w : Int) (r : List Int) (h1 : 1 ≤ w) (h4 : w ≤ 4) (h0 : 0 ≤ n) (hn : n ≤ topV w) : takeV (num n w ++ r) 0 w = (n, r, 0) := by
  have hl := num_length (n := n) h1 h4
  have hN : w.toNat = (num n w).length := by omega
  unfold takeV
  rw [if_neg (by simp), if_neg (by omega), if_neg (by rw [List.length_append]; omega), hN, List.take_left, List.drop_left, val_num h1 h4 h0 hn, if_neg (by omega)]
theorem OctetOrders : withylaw02_OctetOrders.Pure := by
  intro a b c ha hb hc
  have ra : 0 ≤ a ∧ a < 4294967296 := by simp [Lit.wf, IntKind.min, IntKind.max, IntKind.signed, IntKind.bits] at ha; omega
  have rb : 0 ≤ b ∧ b < 4294967296 := by simp [Lit.wf, IntKind.min, IntKind.max, IntKind.signed, IntKind.bits] at hb; omega
  have rc : 0 ≤ c ∧ c < 256 := by simp [Lit.wf, IntKind.min, IntKind.max, IntKind.signed, IntKind.bits] at hc; omega
  refine Ev.rounds (g := fun k => withylaw02_OctetOrders.f k a b c) ?_
  unfold withylaw02_OctetOrders.f
  have hw : wrap64 (1 + wrap64 (Int.tmod c 4)) = 1 + c % 4 := by
    rw [Int.tmod_eq_emod_of_nonneg rc.1, wrap_id (x := c % 4) (by omega) (by omega), wrap_id (by omega) (by omega)]
  rw [hw]
  obtain ⟨w, hwd⟩ : ∃ w, w = 1 + c % 4 := ⟨_, rfl⟩
  rw [← hwd]
  have h1 : 1 ≤ w := by omega
  have h4 : w ≤ 4 := by omega
  have ht := topV_pos w
  have e0 : wrap64 (topV w + 1) = topV w + 1 := wrap_id (by omega) (by omega)
  have em : Int.tmod (wrap64 a) (wrap64 (topV w + 1)) = a % (topV w + 1) := by
    rw [e0, wrap_id (by omega) (by omega), Int.tmod_eq_emod_of_nonneg ra.1]
  have en : Int.tmod (wrap64 b) (wrap64 (topV w + 1)) = b % (topV w + 1) := by
    rw [e0, wrap_id (by omega) (by omega), Int.tmod_eq_emod_of_nonneg rb.1]
  refine Ev.bind (rlimit_ev h1 h4) ?_
  refine Ev.neg (by rw [e0]; omega) ?_
  refine Ev.bind (rlimit_ev h1 h4) ?_
  refine Ev.neg (by rw [e0]; omega) ?_
  rw [em, en]
  have m0 := Int.emod_nonneg a (b := topV w + 1) (by omega)
  have m1 := Int.emod_lt_of_pos a (b := topV w + 1) (by omega)
  have n0 := Int.emod_nonneg b (b := topV w + 1) (by omega)
  have n1 := Int.emod_lt_of_pos b (b := topV w + 1) (by omega)
  generalize a % (topV w + 1) = m at m0 m1 ⊢
  generalize b % (topV w + 1) = n at n0 n1 ⊢
  have p : ∀ x : Int, 0 ≤ x → x < topV w + 1 → putV [] x w = (num x w, 0) := fun x h h' => by
    unfold putV
    rw [if_neg (by omega), if_neg (by omega), List.nil_append]
  refine Ev.bind (put_ev [] m w (by decide)) ?_
  rw [p m m0 m1]
  refine Ev.bind (put_ev [] n w (by decide)) ?_
  rw [p n n0 n1]
  have lm := num_length (n := m) h1 h4
  have ln := num_length (n := n) h1 h4
  have vm := val_num (n := m) h1 h4 m0 (by omega)
  have vn := val_num (n := n) h1 h4 n0 (by omega)
  simp only [Option.bind_some, List.nil_append, List.length_nil, Nat.zero_add]
  refine Ev.pos (by omega) (Ev.pos (by omega) ?_)
  refine Ev.plain (new_v _ (by rw [List.length_append]; omega)) ?_
  refine Ev.pos (by first | rfl | trivial) (Ev.pos (by first | rfl | trivial) ?_)
  refine Ev.bind (take_ev _ 0 w ((num_bytes m w).append (num_bytes n w))) ?_
  rw [take_num m w _ h1 h4 m0 (by omega)]
  refine Ev.pos (by first | rfl | trivial) ?_
  refine Ev.bind (take_ev _ 0 w (num_bytes n w)) ?_
  have e2 := take_num n w [] h1 h4 n0 (by omega)
  rw [List.append_nil] at e2
  rw [e2]
  refine Ev.pos (by first | rfl | trivial) ?_
  refine Ev.plain (end_v _ _) ?_
  refine Ev.pos (by simp [endV]) (Ev.pos ?_ (Ev.pos ?_ fin_ev))
  · rw [less_val _ _ (by omega) (num_bytes m w) (num_bytes n w), vm, vn]; simp
  · rw [beq_iff_eq, Bool.eq_iff_iff, beq_iff_eq, beq_iff_eq]
    constructor
    · intro h
      have := strOf_inj (num_bytes m w) (num_bytes n w) h
      rw [← vm, ← vn, this]
    · intro h; rw [h]
end Go.Proofs.Ytfbdidijdibhmaa.Pure
