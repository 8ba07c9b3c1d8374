/- What crc.More and crc.Of answer, as words of 32 bits. -/
import Derived.Test.YtedpjakmlniodaaCrcInt
import Derived.Test.YtedpjakmlniodaaEvLib
import Derived.Test.YtedpjakmlniodaaPBendBurstsx
set_option linter.unusedSimpArgs false
set_option linter.unusedVariables false
namespace Go.Proofs.Ytedpjakmlniodaa.PBendBursts
open Go.RowKit Go.Proofs.YtedpjakmlniodaaW.PrintWords Go.Proofs.YtedpjakmlniodaaW.PrintLast Go.Proofs.Ytedpjakmlniodaa.Crc Go.Proofs.Ytedpjakmlniodaa.EvLib


theorem crc_More.ev1 (l : List Int) (r : Int) (i : Int) (d : Nat) : ∀ (X : BitVec 32) (j : Int), 0 ≤ j → j + d = 8 →
    Ev (fun k => crc_More.l0 k ((Tn d X).toNat : Int) l (l.length : Int) (wrap64 (i + 1))) r → Ev (fun k => crc_More.l1 k (X.toNat : Int) l (l.length : Int) i j) r := by
  induction d with
  | zero =>
    intro X j hj h8 h
    refine Ev.step (fun k => ?_) h
    simp only [crc_More.l1]
    rw [if_neg (by omega)]
    rfl
  | succ d ih =>
    intro X j hj h8 h
    have hw : wrap64 (j + 1) = j + 1 := wrap_up hj (by omega)
    have ih' := ih (T X) (j + 1) (by omega) (by omega) h
    refine Ev.step (fun k => ?_) ih'
    simp only [crc_More.l1]
    rw [if_pos (by omega), hw]
    unfold T
    cases hm : X.msb with
    | false =>
      rw [if_pos ((high32 X).2 hm), shl32]
      rfl
    | true =>
      rw [if_neg (fun h => by rw [(high32 X).1 h] at hm; cases hm), shl32, ← poly32, xor32]
      rfl

theorem crc_More.ev0 (l : List Int) (hl : Bytes l) (hlen : l.length ≤ 140737488355328) (d : Nat) : ∀ (X : BitVec 32) (i : Nat), i + d = l.length →
    Ev (fun k => crc_More.l0 k (X.toNat : Int) l (l.length : Int) i) ((~~~(more X (l.drop i))).toNat : Int) := by
  induction d with
  | zero =>
    intro X i h
    refine Ev.step (fun k => ?_) (Ev.now _)
    simp only [crc_More.l0]
    rw [if_neg (by omega), List.drop_of_length_le (by omega), not32]
    rfl
  | succ d ih =>
    intro X i h
    have hlt : i < l.length := by omega
    have hr : rd l (i : Int) = l[i] := by simp [rd, hlt]
    have hb := hl l[i] (List.getElem_mem hlt)
    have e : more X (l.drop i) = more (Tn 8 (X ^^^ BitVec.ofNat 32 (l[i].toNat * 16777216))) (l.drop (i + 1)) := by
      rw [List.drop_eq_getElem_cons hlt]; rfl
    rw [e]
    have h1 := ih (Tn 8 (X ^^^ BitVec.ofNat 32 (l[i].toNat * 16777216))) (i + 1) (by omega)
    have hw : wrap64 ((i : Int) + 1) = ((i + 1 : Nat) : Int) := by rw [wrap_up (by omega) (by omega)]; rfl
    rw [← hw] at h1
    refine Ev.step (fun k => ?_) (crc_More.ev1 l _ i 8 _ 0 (by omega) (by omega) h1)
    simp only [crc_More.l0]
    rw [if_pos (by omega), if_pos (by omega), if_pos (by omega), hr, byte32 _ hb, xor32]

theorem crc_More.ev (X : BitVec 32) (l : List Int) (hl : Bytes l) (hlen : l.length ≤ 140737488355328) :
    Ev (fun k => crc_More.f k (X.toNat : Int) l) ((~~~(more (~~~X) l)).toNat : Int) := by
  refine Ev.congr (fun k => ?_) (crc_More.ev0 l hl hlen l.length (~~~X) 0 (by omega))
  unfold crc_More.f
  rw [not32]
  rfl

/-- Any bytes' sum, as a word. -/
def sum (l : List Int) : BitVec 32 := ~~~(more 0xFFFFFFFF#32 l)

theorem crc_Of.ev (l : List Int) (hl : Bytes l) (hlen : l.length ≤ 140737488355328) : Ev (fun k => crc_Of.f k l) ((sum l).toNat : Int) := by
  have h := crc_More.ev 0#32 l hl hlen
  have e : ~~~(0#32) = 0xFFFFFFFF#32 := by decide
  rw [e] at h
  exact Ev.bind h (Ev.now _)

end Go.Proofs.Ytedpjakmlniodaa.PBendBursts
