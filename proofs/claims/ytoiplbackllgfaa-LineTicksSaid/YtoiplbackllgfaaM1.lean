/- texts of this claim, one behind the other: HandEnd. -/

/- One end of a session, plain: what it is, and what it hears. -/
namespace Go.Proofs.Ytoiplbackllgfaa.HP
set_option linter.unusedVariables false
set_option linter.unusedSimpArgs false
set_option linter.unusedSectionVars false

structure H where
  last : Int
  cur : Int
  prop : Int
  over : Bool
deriving DecidableEq
abbrev Note := Bool × Int

def H.May (h : H) : Prop := (0 ≤ h.last ∧ h.last ≤ 2147483647) ∧
  (h.over = true ∧ h.cur = 0 ∧ h.prop = 0 ∨ h.over = false ∧ (h.cur ≠ 0 ∧ h.cur = h.last ∧ h.prop = 0 ∨ h.cur = 0 ∧ h.last < h.prop ∧ h.prop ≤ 2147483647))
def hnew (last limit : Int) : H := if limit ≤ last then ⟨last, 0, 0, true⟩ else ⟨last, 0, last + 1, false⟩
def hello (limit : Int) (h : H) (p : Int) : H × Bool :=
  if h.over = true ∨ p < 1 ∨ limit < p then (h, false)
  else if h.cur = 0 then (if h.prop < p then ({ h with prop := p }, true) else (h, decide (p = h.prop)))
  else if h.cur < p then (⟨h.last, 0, p, false⟩, true) else (h, decide (p = h.cur))
/-- Does one's session end? -/
def helE (limit : Int) (h : H) (p : Int) : Bool := if h.over = true ∨ p < 1 ∨ limit < p then false else if h.cur = 0 then false else if h.cur < p then true else false
def welE (prop p : Int) : Bool := if prop = 0 ∨ p ≠ prop then false else true
def welcome (h : H) (p : Int) : H := if h.prop = 0 ∨ p ≠ h.prop then h else ⟨p, p, 0, false⟩
def close (limit : Int) (h : H) : H := if h.cur = 0 then h else hnew h.last limit

def wat (n : Int) (len : Nat) : Nat := (n % (len : Int)).toNat

instance instHMay (h : H) : Decidable h.May := by unfold H.May; infer_instance
end Go.Proofs.Ytoiplbackllgfaa.HP
