/- Bytes sealed, and opened: what the program answers. -/
import Derived.Test.YtedpjakmlniodaaEvBendBursts
set_option linter.unusedSimpArgs false
set_option linter.unusedVariables false
namespace Go.Proofs.Ytedpjakmlniodaa.PBendBursts
open Go.RowKit Go.Proofs.YtedpjakmlniodaaW.PrintWords Go.Proofs.YtedpjakmlniodaaW.PrintLast Go.Proofs.Ytedpjakmlniodaa.Crc Go.Proofs.Ytedpjakmlniodaa.EvLib

/-- Bytes and their sum. -/
def sealed (l : List Int) : List Int := l ++ tail4 ((sum l).toNat : Int)
theorem sealed_length (l : List Int) : (sealed l).length = l.length + 4 := by simp [sealed, tail4_length]
theorem sealed_bytes {l : List Int} (h : Bytes l) : Bytes (sealed l) := h.append (tail4_bytes _)

theorem crc_Seal.ev (l : List Int) (hl : Bytes l) (hlen : l.length < 140737488355320) : Ev (fun k => crc_Seal.f k l) (sealed l) := by
  unfold crc_Seal.f
  refine Ev.bind (crc_Of.ev l hl (by omega)) ?_
  refine Ev.name ?_
  refine Ev.pos (by simp; omega) ?_
  refine Ev.name ?_
  refine Ev.name ?_
  refine Ev.pos (by simp; omega) ?_
  exact Ev.now _

/-- What opening bytes answers. -/
def opened (l : List Int) : List Int × Int := if l.length < 4 then ([], 5) else if sealed (l.take (l.length - 4)) = l then (l.take (l.length - 4), 0) else ([], 6)

theorem crc_Open.ev (l : List Int) (hl : Bytes l) (hlen : l.length < 140737488355320) : Ev (fun k => crc_Open.f k l) (opened l) := by
  have hw : wrap64 ((l.length : Int) - 4) = (l.length : Int) - 4 := wrap_id (by omega) (by omega)
  unfold crc_Open.f opened
  rw [hw]
  refine Ev.cases (fun h => ?_) (fun h => ?_)
  · rw [if_pos (by omega)]; exact Ev.now _
  · have hn : ((l.length : Int) - 4).toNat = l.length - 4 := by omega
    rw [if_neg (by omega), hn]
    refine Ev.pos (by omega) ?_
    refine Ev.pos (by omega) ?_
    refine Ev.bind (crc_Seal.ev _ (hl.take _) (by simp; omega)) ?_
    by_cases he : sealed (l.take (l.length - 4)) = l
    · rw [if_pos he]
      refine Ev.pos (by rw [he]) ?_
      refine Ev.name ?_
      refine Ev.pos (by simp; omega) ?_
      exact Ev.now _
    · rw [if_neg he]
      refine Ev.neg (fun h2 => he (strOf_inj (sealed_bytes (hl.take _)) hl h2)) ?_
      exact Ev.now _

theorem opened_sealed (l : List Int) : opened (sealed l) = (l, 0) := by
  unfold opened
  have e : (sealed l).take ((sealed l).length - 4) = l := by rw [sealed_length]; simp [sealed]
  rw [if_neg (by rw [sealed_length]; omega), e, if_pos rfl]

/-- Sealed bytes have one register, whatever they are. -/
theorem sealed_R (l : List Int) (hl : Bytes l) : R 0xFFFFFFFF#32 (bitsOf (sealed l)) = Tn 32 (BitVec.allOnes 32) := by
  unfold sealed
  have hb : (bitsOf (tail4 ((sum l).toNat : Int))).length = 32 := by simp [bitsOf_length, tail4_length]
  rw [bitsOf_append, R_append, ← more_R l hl, R_top _ _ (by omega), hb, bits_tail4]
  congr 1
  unfold sum
  rw [BitVec.not_def, ← BitVec.xor_assoc, BitVec.xor_comm (more _ _) (BitVec.allOnes 32), BitVec.xor_assoc, BitVec.xor_self, BitVec.xor_zero]
end Go.Proofs.Ytedpjakmlniodaa.PBendBursts
