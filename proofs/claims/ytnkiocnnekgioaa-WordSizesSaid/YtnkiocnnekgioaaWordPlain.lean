/- words, plain: numbers in so many bytes, what is read of bytes, which words may be, their bytes. -/
import Derived.Laws.BitsLemmas
namespace Go.Proofs.Ytnkiocnnekgioaa.WP
set_option linter.unusedVariables false
set_option linter.unusedSimpArgs false
set_option linter.unusedSectionVars false
/-- All are bytes. -/
abbrev Bytes (l : List Int) : Prop := ∀ x ∈ l, 0 ≤ x ∧ x < 256
theorem Bytes.take {l : List Int} (h : Bytes l) (n : Nat) : Bytes (l.take n) := fun x hx => h x (List.mem_of_mem_take hx)
theorem Bytes.drop {l : List Int} (h : Bytes l) (n : Nat) : Bytes (l.drop n) := fun x hx => h x (List.mem_of_mem_drop hx)
theorem Bytes.append {l m : List Int} (h : Bytes l) (h2 : Bytes m) : Bytes (l ++ m) := fun x hx => (List.mem_append.1 hx).elim (h x) (h2 x)
/-- The number that bytes are, behind a number. -/
def valFrom (a : Int) (l : List Int) : Int := l.foldl (fun a c => a * 256 + c) a
abbrev val (l : List Int) : Int := valFrom 0 l
theorem valFrom_cons (a c : Int) (l : List Int) : valFrom a (c :: l) = valFrom (a * 256 + c) l := rfl
theorem valFrom_snoc (a c : Int) (l : List Int) : valFrom a (l ++ [c]) = valFrom a l * 256 + c := by simp [valFrom]
theorem valFrom_split (l : List Int) : ∀ a : Int, valFrom a l = a * 256 ^ l.length + val l := by
  induction l with
  | nil => intro a; simp [valFrom]
  | cons c l ih =>
    intro a
    have h1 := ih (a * 256 + c)
    have h2 := ih (0 * 256 + c)
    have e1 : valFrom a (c :: l) = valFrom (a * 256 + c) l := rfl
    have e2 : val (c :: l) = valFrom (0 * 256 + c) l := rfl
    rw [e1, e2, h1, h2, List.length_cons, Int.pow_succ]
    rw [Int.add_mul, Int.add_mul, Int.zero_mul, Int.zero_mul, Int.mul_assoc, Int.mul_comm 256 (256 ^ l.length)]
    omega
theorem val_range (l : List Int) (h : Bytes l) : 0 ≤ val l ∧ val l < 256 ^ l.length := by
  induction l with
  | nil => simp [valFrom]
  | cons c l ih =>
    have h1 := ih (fun x hx => h x (List.mem_cons_of_mem _ hx))
    have hc := h c List.mem_cons_self
    have e2 : val (c :: l) = c * 256 ^ l.length + val l := by
      have : val (c :: l) = valFrom (0 * 256 + c) l := rfl
      rw [this, valFrom_split]; simp
    have hp : (0 : Int) < 256 ^ l.length := Int.pow_pos (by decide)
    have m1 : 0 ≤ c * 256 ^ l.length := Int.mul_nonneg hc.1 (Int.le_of_lt hp)
    have m2 : c * 256 ^ l.length ≤ 255 * 256 ^ l.length := Int.mul_le_mul_of_nonneg_right (by omega) (Int.le_of_lt hp)
    rw [e2, List.length_cons, Int.pow_succ]
    omega
theorem val_take_succ (l : List Int) (i : Nat) (h : i < l.length) : val (l.take (i + 1)) = val (l.take i) * 256 + l[i] := by
  rw [List.take_succ_eq_append_getElem h]
  exact valFrom_snoc 0 _ _
/-- The greatest number of a width. -/
def topV (w : Int) : Int := if w = 1 then 255 else if w = 2 then 65535 else if w = 3 then 16777215 else 2147483647
/-- A number in so many bytes. -/
def num (n w : Int) : List Int := if w = 1 then [n % 256] else if w = 2 then [n / 256 % 256, n % 256] else if w = 3 then [n / 256 / 256 % 256, n / 256 % 256, n % 256] else [n / 256 / 256 / 256 % 256, n / 256 / 256 % 256, n / 256 % 256, n % 256]
theorem width_cases {w : Int} (h1 : 1 ≤ w) (h4 : w ≤ 4) : w = 1 ∨ w = 2 ∨ w = 3 ∨ w = 4 := by omega
theorem num_length {n w : Int} (h1 : 1 ≤ w) (h4 : w ≤ 4) : ((num n w).length : Int) = w := by
  rcases width_cases h1 h4 with rfl | rfl | rfl | rfl <;> rfl
theorem num_bytes (n w : Int) : Bytes (num n w) := by
  intro x hx
  unfold num at hx
  (repeat' split at hx) <;> simp at hx <;> omega
theorem val_num {n w : Int} (h1 : 1 ≤ w) (h4 : w ≤ 4) (h0 : 0 ≤ n) (hn : n ≤ topV w) : val (num n w) = n := by
  rcases width_cases h1 h4 with rfl | rfl | rfl | rfl <;> simp [num, valFrom, topV] at hn ⊢ <;> omega
theorem topV_pos (w : Int) : 255 ≤ topV w ∧ topV w ≤ 2147483647 := by unfold topV; (repeat' split) <;> omega
/-- What is taken from bytes: the number, the bytes that are left, and what is wrong. -/
def takeV (l : List Int) (e w : Int) : Int × List Int × Int :=
  if e ≠ 0 then (0, l, e) else if w < 1 ∨ w > 4 then (0, l, 1) else if (l.length : Int) < w then (0, l, 5) else if val (l.take w.toNat) > topV w then (0, l, 5) else (val (l.take w.toNat), l.drop w.toNat, 0)
theorem takeV_bytes (l : List Int) (e w : Int) (hb : Bytes l) : Bytes (takeV l e w).2.1 := by
  unfold takeV
  (repeat' split) <;> first | exact hb | exact hb.drop _
/-- What is wrong in the end. -/
def endV (l : List Int) (e : Int) : Int := if e = 0 then (if l.length = 0 then 0 else 5) else e
theorem take_num (n w : Int) (r : List Int) (h1 : 1 ≤ w) (h4 : w ≤ 4) (h0 : 0 ≤ n) (hn : n ≤ topV w) : takeV (num n w ++ r) 0 w = (n, r, 0) := by
  have hl := num_length (n := n) h1 h4
  have hN : w.toNat = (num n w).length := by omega
  unfold takeV
  rw [if_neg (by simp), if_neg (by omega), if_neg (by rw [List.length_append]; omega), hN, List.take_left, List.drop_left, val_num h1 h4 h0 hn, if_neg (by omega)]
theorem num_val (l : List Int) (w : Int) (hb : Bytes l) (h1 : 1 ≤ w) (h4 : w ≤ 4) (hl : (l.length : Int) = w) : num (val l) w = l := by
  rcases width_cases h1 h4 with rfl | rfl | rfl | rfl
  · obtain ⟨a, rfl⟩ : ∃ a, l = [a] := by
      match l, hl with
      | [a], _ => exact ⟨a, rfl⟩
    have ha := hb a (by simp)
    simp [num, valFrom]; omega
  · obtain ⟨a, b, rfl⟩ : ∃ a b, l = [a, b] := by
      match l, hl with
      | [a, b], _ => exact ⟨a, b, rfl⟩
    have ha := hb a (by simp)
    have hb' := hb b (by simp)
    simp [num, valFrom]; omega
  · obtain ⟨a, b, c, rfl⟩ : ∃ a b c, l = [a, b, c] := by
      match l, hl with
      | [a, b, c], _ => exact ⟨a, b, c, rfl⟩
    have ha := hb a (by simp)
    have hb' := hb b (by simp)
    have hc := hb c (by simp)
    simp [num, valFrom]; omega
  · obtain ⟨a, b, c, d, rfl⟩ : ∃ a b c d, l = [a, b, c, d] := by
      match l, hl with
      | [a, b, c, d], _ => exact ⟨a, b, c, d, rfl⟩
    have ha := hb a (by simp)
    have hb' := hb b (by simp)
    have hc := hb c (by simp)
    have hd := hb d (by simp)
    simp [num, valFrom]; omega
/-- What a number that was taken says of the bytes. -/
theorem takeV_inv (l : List Int) (e w : Int) (hb : Bytes l) (h1 : 1 ≤ w) (h4 : w ≤ 4) (h : (takeV l e w).2.2 = 0) : e = 0 ∧ l = num (takeV l e w).1 w ++ (takeV l e w).2.1 ∧ 0 ≤ (takeV l e w).1 ∧ (takeV l e w).1 ≤ topV w := by
  unfold takeV at h ⊢
  by_cases he : e = 0
  · subst he
    rw [if_neg (by simp), if_neg (by omega)] at h ⊢
    by_cases h2 : (l.length : Int) < w
    · rw [if_pos h2] at h; simp at h
    · rw [if_neg h2] at h ⊢
      by_cases h3 : val (l.take w.toNat) > topV w
      · rw [if_pos h3] at h; simp at h
      · rw [if_neg h3]
        refine ⟨rfl, ?_, (val_range _ (hb.take _)).1, by simpa using h3⟩
        rw [num_val _ w (hb.take _) h1 h4 (by rw [List.length_take]; omega), List.take_append_drop]
  · rw [if_pos he] at h; exact absurd h he

/-! ### reading -/
abbrev Sc := List Int × Int
def tk (w : Int) (σ : Sc) : Int × Sc := takeV σ.1 σ.2 w
def rds : List Int → Sc → List Int × Sc
  | [], σ => ([], σ)
  | w :: ws, σ => ((tk w σ).1 :: (rds ws (tk w σ).2).1, (rds ws (tk w σ).2).2)
def encs : List Int → List Int → List Int
  | w :: ws, n :: ns => num n w ++ encs ws ns
  | _, _ => []
def rdN : Nat → Sc → List Int × Sc
  | 0, σ => ([], σ)
  | k + 1, σ => if σ.2 ≠ 0 then ([], σ) else ((tk 1 σ).1 :: (rdN k (tk 1 σ).2).1, (rdN k (tk 1 σ).2).2)
def rdL : Nat → Sc → List (List Int) × Sc
  | 0, σ => ([], σ)
  | k + 1, σ => if σ.2 ≠ 0 then ([], σ) else ((rds [1, 1, 4, 4, 1] σ).1 :: (rdL k (rds [1, 1, 4, 4, 1] σ).2).1, (rdL k (rds [1, 1, 4, 4, 1] σ).2).2)
def WOk (ws : List Int) : Prop := ∀ w ∈ ws, 1 ≤ w ∧ w ≤ 4
theorem tk_bytes {w : Int} {σ : Sc} (hb : Bytes σ.1) : Bytes (tk w σ).2.1 := takeV_bytes _ _ _ hb
theorem rds_bytes : ∀ (ws : List Int) {σ : Sc}, Bytes σ.1 → Bytes (rds ws σ).2.1
  | [], _, h => h
  | _ :: ws, _, h => rds_bytes ws (tk_bytes h)
theorem rdN_bytes : ∀ (k : Nat) {σ : Sc}, Bytes σ.1 → Bytes (rdN k σ).2.1
  | 0, _, h => h
  | k + 1, σ, h => by
    unfold rdN; split
    · exact h
    · exact rdN_bytes k (tk_bytes h)
theorem rdL_bytes : ∀ (k : Nat) {σ : Sc}, Bytes σ.1 → Bytes (rdL k σ).2.1
  | 0, _, h => h
  | k + 1, σ, h => by
    unfold rdL; split
    · exact h
    · exact rdL_bytes k (rds_bytes _ h)
theorem tk_err {w : Int} {σ : Sc} (h : σ.2 ≠ 0) : (tk w σ).2 = σ ∧ (tk w σ).1 = 0 := by unfold tk takeV; rw [if_pos h]; exact ⟨rfl, rfl⟩
theorem rds_err : ∀ (ws : List Int) {σ : Sc}, σ.2 ≠ 0 → (rds ws σ).2 = σ
  | [], _, _ => rfl
  | w :: ws, σ, h => by
    show (rds ws (tk w σ).2).2 = σ
    rw [(tk_err h).1]; exact rds_err ws h
theorem tk_inv {w : Int} {σ : Sc} (hb : Bytes σ.1) (hw : 1 ≤ w ∧ w ≤ 4) (h : (tk w σ).2.2 = 0) : σ.2 = 0 ∧ σ.1 = num (tk w σ).1 w ++ (tk w σ).2.1 := by
  obtain ⟨a, b, _, _⟩ := takeV_inv σ.1 σ.2 w hb hw.1 hw.2 h
  exact ⟨a, b⟩
theorem rds_inv : ∀ (ws : List Int) {σ : Sc}, Bytes σ.1 → WOk ws → (rds ws σ).2.2 = 0 → σ.2 = 0 ∧ σ.1 = encs ws (rds ws σ).1 ++ (rds ws σ).2.1
  | [], σ, _, _, h => ⟨h, rfl⟩
  | w :: ws, σ, hb, hw, h => by
    obtain ⟨a, b⟩ := rds_inv ws (tk_bytes (w := w) hb) (fun x hx => hw x (List.mem_cons_of_mem _ hx)) h
    obtain ⟨c, d⟩ := tk_inv hb (hw w List.mem_cons_self) a
    refine ⟨c, ?_⟩
    show σ.1 = (num (tk w σ).1 w ++ encs ws (rds ws (tk w σ).2).1) ++ (rds ws (tk w σ).2).2.1
    rw [List.append_assoc, ← b, ← d]
theorem tk_num {n w : Int} {r : List Int} (hw : 1 ≤ w ∧ w ≤ 4) (hn : 0 ≤ n ∧ n ≤ topV w) : tk w (num n w ++ r, 0) = (n, (r, 0)) := take_num n w r hw.1 hw.2 hn.1 hn.2
inductive Fits : List Int → List Int → Prop
  | nil : Fits [] []
  | cons {w n : Int} {ws ns : List Int} (hw : 1 ≤ w ∧ w ≤ 4) (hn : 0 ≤ n ∧ n ≤ topV w) (h : Fits ws ns) : Fits (w :: ws) (n :: ns)
theorem rds_num : ∀ {ws ns : List Int} {r : List Int}, Fits ws ns → rds ws (encs ws ns ++ r, 0) = (ns, (r, 0))
  | _, _, _, .nil => rfl
  | _, _, r, .cons (w := w) (n := n) (ws := ws) (ns := ns) hw hn h => by
    have e : tk w (encs (w :: ws) (n :: ns) ++ r, 0) = (n, (encs ws ns ++ r, 0)) := by
      show tk w ((num n w ++ encs ws ns) ++ r, 0) = _
      rw [List.append_assoc]; exact tk_num hw hn
    unfold rds
    rw [e, rds_num h]
theorem rds_length : ∀ (ws : List Int) {σ : Sc}, (rds ws σ).1.length = ws.length
  | [], _ => rfl
  | w :: ws, σ => by show (rds ws (tk w σ).2).1.length + 1 = ws.length + 1; rw [rds_length ws]
theorem rdN_inv : ∀ (k : Nat) {σ : Sc}, Bytes σ.1 → (rdN k σ).2.2 = 0 → σ.2 = 0 ∧ (rdN k σ).1.length = k ∧ σ.1 = (rdN k σ).1.flatMap (fun n => num n 1) ++ (rdN k σ).2.1
  | 0, σ, _, h => ⟨h, rfl, rfl⟩
  | k + 1, σ, hb, h => by
    by_cases he : σ.2 = 0
    · have e : rdN (k + 1) σ = ((tk 1 σ).1 :: (rdN k (tk 1 σ).2).1, (rdN k (tk 1 σ).2).2) := by
        show (if σ.2 ≠ 0 then ([], σ) else _) = _
        rw [if_neg (fun x => x he)]
      rw [e] at h ⊢
      obtain ⟨a, b, c⟩ := rdN_inv k (tk_bytes (w := 1) hb) h
      obtain ⟨_, d⟩ := tk_inv hb (by decide) a
      refine ⟨he, by simp [b], ?_⟩
      simp only [List.flatMap_cons, List.append_assoc]
      rw [← c, ← d]
    · have e : rdN (k + 1) σ = ([], σ) := by
        show (if σ.2 ≠ 0 then ([], σ) else _) = _
        rw [if_pos he]
      rw [e] at h; exact absurd h he
theorem rdN_num : ∀ (ns : List Int) {r : List Int}, (∀ n ∈ ns, 0 ≤ n ∧ n ≤ 255) → rdN ns.length (ns.flatMap (fun n => num n 1) ++ r, 0) = (ns, (r, 0))
  | [], _, _ => rfl
  | n :: ns, r, h => by
    have e : tk 1 ((n :: ns).flatMap (fun n => num n 1) ++ r, 0) = (n, (ns.flatMap (fun n => num n 1) ++ r, 0)) := by
      rw [List.flatMap_cons, List.append_assoc]; exact tk_num (by decide) (by have := h n (by simp); unfold topV; simp; omega)
    rw [List.length_cons]
    unfold rdN
    rw [e, rdN_num ns (fun m hm => h m (by simp [hm])), if_neg (by simp)]
abbrev KW : List Int := [1, 1, 4, 4, 1]
theorem rdL_inv : ∀ (k : Nat) {σ : Sc}, Bytes σ.1 → (rdL k σ).2.2 = 0 → σ.2 = 0 ∧ (rdL k σ).1.length = k ∧ (∀ x ∈ (rdL k σ).1, x.length = 5) ∧ σ.1 = (rdL k σ).1.flatMap (fun n => encs KW n) ++ (rdL k σ).2.1
  | 0, σ, _, h => ⟨h, rfl, (fun x hx => by simp [rdL] at hx), rfl⟩
  | k + 1, σ, hb, h => by
    by_cases he : σ.2 = 0
    · have e : rdL (k + 1) σ = ((rds KW σ).1 :: (rdL k (rds KW σ).2).1, (rdL k (rds KW σ).2).2) := by
        show (if σ.2 ≠ 0 then ([], σ) else _) = _
        rw [if_neg (fun x => x he)]
      rw [e] at h ⊢
      obtain ⟨a, b, q, c⟩ := rdL_inv k (rds_bytes KW hb) h
      obtain ⟨_, d⟩ := rds_inv KW hb (by unfold WOk; decide) a
      refine ⟨he, by simp [b], fun x hx => ?_, ?_⟩
      · rcases List.mem_cons.1 hx with rfl | hx
        · exact rds_length KW
        · exact q x hx
      · simp only [List.flatMap_cons, List.append_assoc]
        rw [← c, ← d]
    · have e : rdL (k + 1) σ = ([], σ) := by
        show (if σ.2 ≠ 0 then ([], σ) else _) = _
        rw [if_pos he]
      rw [e] at h; exact absurd h he
theorem rdL_num : ∀ (ns : List (List Int)) {r : List Int}, (∀ n ∈ ns, Fits KW n) → rdL ns.length (ns.flatMap (fun n => encs KW n) ++ r, 0) = (ns, (r, 0))
  | [], _, _ => rfl
  | n :: ns, r, h => by
    have e : rds KW ((n :: ns).flatMap (fun n => encs KW n) ++ r, 0) = (n, (ns.flatMap (fun n => encs KW n) ++ r, 0)) := by
      rw [List.flatMap_cons, List.append_assoc]; exact rds_num (h n (by simp))
    rw [List.length_cons]
    unfold rdL
    rw [e, rdL_num ns (fun m hm => h m (by simp [hm])), if_neg (by simp)]

theorem getD_mem {l : List Int} {i : Nat} (h : i < l.length) : l.getD i 0 ∈ l := by
  rw [List.getD_eq_getElem?_getD, List.getElem?_eq_getElem h]; exact List.getElem_mem _
/-! ### words -/
structure Kn where
  node : Int
  peer : Int
  w : Int
  ses : Int
  m : Bool
deriving DecidableEq
structure Ch where
  kind : Int
  a : Int
  b : Int
  ses : Int
deriving DecidableEq
structure Wd where
  kind : Int
  epoch : Int
  root : Int
  ns : List Int
  ls : List Kn
  ch : Ch
deriving DecidableEq
def top : Int := 2147483647
def nodeOk (n : Int) : Prop := 1 ≤ n ∧ n ≤ 64
def eidMay (e r : Int) : Prop := e = 0 ∧ r = 0 ∨ 1 ≤ e ∧ e ≤ 2147483647 ∧ nodeOk r
def ahead (a b : Kn) : Prop := a.node < b.node ∨ a.node = b.node ∧ a.peer < b.peer
def knOk (ns : List Int) (k : Kn) : Prop := k.node ∈ ns ∧ nodeOk k.peer ∧ k.node ≠ k.peer ∧ 0 ≤ k.w ∧ k.w ≤ 2147483647 ∧ 1 ≤ k.ses ∧ k.ses ≤ 2147483647
def nsOk (ns : List Int) (i : Nat) : Prop := ∀ x, ns[i]? = some x → nodeOk x ∧ ∀ y, 0 < i → ns[i - 1]? = some y → y < x
def lsOk (ns : List Int) (ls : List Kn) (i : Nat) : Prop := ∀ k, ls[i]? = some k → knOk ns k ∧ ∀ p, 0 < i → ls[i - 1]? = some p → ahead p k
def viewMay (ns : List Int) (ls : List Kn) : Prop := (∀ i, nsOk ns i) ∧ ∀ i, lsOk ns ls i
def chMay (c : Ch) : Prop := c.kind = 1 ∧ c.a = 0 ∧ c.b = 0 ∧ c.ses = 0 ∨ (c.kind = 2 ∨ c.kind = 3) ∧ nodeOk c.a ∧ nodeOk c.b ∧ c.a ≠ c.b ∧ 1 ≤ c.ses ∧ c.ses ≤ 2147483647 ∧ (c.kind = 2 ∨ c.a < c.b)
def Wd.named (w : Wd) : Prop := 0 < w.epoch ∧ eidMay w.epoch w.root
def Wd.empty (w : Wd) : Prop := w.ns = [] ∧ w.ls = []
def Wd.full (w : Wd) : Prop := w.ns ≠ [] ∧ w.ls.length ≤ 1024 ∧ viewMay w.ns w.ls
def Wd.silent (w : Wd) : Prop := w.ch = ⟨0, 0, 0, 0⟩
def Wd.may (w : Wd) : Prop :=
  w.kind = 1 ∧ w.named ∧ w.empty ∧ w.silent ∨ w.kind = 2 ∧ w.named ∧ w.full ∧ w.silent ∨
  w.kind = 3 ∧ w.named ∧ chMay w.ch ∧ (w.ch.kind = 1 ∧ w.full ∨ w.ch.kind ≠ 1 ∧ w.empty) ∨
  (4 ≤ w.kind ∧ w.kind ≤ 7) ∧ w.epoch = 0 ∧ w.root = 0 ∧ w.empty ∧ w.silent
def bit (b : Bool) : Int := if b = true then 1 else 0
def Kn.nums (k : Kn) : List Int := [k.node, k.peer, k.w, k.ses, bit k.m]
abbrev HW : List Int := [1, 4, 1, 1, 1, 1, 4, 1]
def Wd.hd (w : Wd) : List Int := [w.kind, w.epoch, w.root, w.ch.kind, w.ch.a, w.ch.b, w.ch.ses, w.ns.length]
def Wd.enc (w : Wd) : List Int := encs HW w.hd ++ (w.ns.flatMap (fun n => num n 1) ++ (num w.ls.length 2 ++ w.ls.flatMap fun k => encs KW k.nums))
def knOf (l : List Int) : Kn := ⟨l.getD 0 0, l.getD 1 0, l.getD 2 0, l.getD 3 0, decide (l.getD 4 0 = 1)⟩
theorem knOf_nums (k : Kn) : knOf k.nums = k := by
  obtain ⟨a, b, c, d, m⟩ := k
  cases m <;> rfl
def wdOf (h ns : List Int) (ls : List (List Int)) : Wd := ⟨h.getD 0 0, h.getD 1 0, h.getD 2 0, ns, ls.map knOf, ⟨h.getD 3 0, h.getD 4 0, h.getD 5 0, h.getD 6 0⟩⟩
/-- What is read of bytes. -/
structure Rd (l : List Int) (h : List Int) (s1 : Sc) (ns : List Int) (s2 : Sc) (m : Int) (s3 : Sc) (ls : List (List Int)) (s4 : Sc) : Prop where
  e1 : rds HW (l, 0) = (h, s1)
  e2 : rdN (h.getD 7 0).toNat s1 = (ns, s2)
  e3 : tk 2 s2 = (m, s3)
  e4 : rdL m.toNat s3 = (ls, s4)
theorem rd_all (l : List Int) : ∃ h s1 ns s2 m s3 ls s4, Rd l h s1 ns s2 m s3 ls s4 := ⟨_, _, _, _, _, _, _, _, rfl, rfl, rfl, rfl⟩
def marks (ls : List (List Int)) : Prop := ∀ x ∈ ls, x.getD 4 0 ≤ 1
/-- What the program's reading accepts; what the document's does. -/
def implOk (ls : List (List Int)) (s4 : Sc) (w : Wd) : Prop := marks ls ∧ endV s4.1 s4.2 = 0 ∧ w.may
def refOk (l : List Int) (s4 : Sc) (w : Wd) : Prop := s4.2 = 0 ∧ w.may ∧ w.enc = l
theorem tk_nn {w : Int} {σ : Sc} (hb : Bytes σ.1) : 0 ≤ (tk w σ).1 := by
  unfold tk takeV
  (repeat' split) <;> first | exact Int.le_refl _ | exact (val_range _ (hb.take _)).1
theorem rds_nn : ∀ (ws : List Int) {σ : Sc}, Bytes σ.1 → ∀ x ∈ (rds ws σ).1, 0 ≤ x
  | [], _, _, _, h => by cases h
  | w :: ws, σ, hb, x, h => by
    rcases List.mem_cons.1 h with rfl | h
    · exact tk_nn hb
    · exact rds_nn ws (tk_bytes hb) x h
theorem rdL_nn : ∀ (k : Nat) {σ : Sc}, Bytes σ.1 → ∀ x ∈ (rdL k σ).1, ∀ y ∈ x, 0 ≤ y
  | 0, _, _, _, h => by cases h
  | k + 1, σ, hb, x, h => by
    have e : rdL (k + 1) σ = if σ.2 ≠ 0 then ([], σ) else ((rds KW σ).1 :: (rdL k (rds KW σ).2).1, (rdL k (rds KW σ).2).2) := rfl
    rw [e] at h
    split at h
    · cases h
    · rcases List.mem_cons.1 h with rfl | h
      · exact rds_nn KW hb
      · exact rdL_nn k (rds_bytes KW hb) x h
theorem tk1_le {σ : Sc} : (tk 1 σ).1 ≤ 255 := by
  unfold tk takeV
  (repeat' split) <;> first | decide | (rename_i h; have : topV 1 = 255 := rfl; omega)
theorem mark_le {σ : Sc} : (rds KW σ).1.getD 4 0 ≤ 255 := tk1_le
theorem rdL_le : ∀ (k : Nat) {σ : Sc}, Bytes σ.1 → ∀ x ∈ (rdL k σ).1, x.getD 4 0 ≤ 255
  | 0, _, _, _, h => by cases h
  | k + 1, σ, hb, x, h => by
    have e : rdL (k + 1) σ = if σ.2 ≠ 0 then ([], σ) else ((rds KW σ).1 :: (rdL k (rds KW σ).2).1, (rdL k (rds KW σ).2).2) := rfl
    rw [e] at h
    split at h
    · cases h
    · rcases List.mem_cons.1 h with rfl | h
      · exact mark_le
      · exact rdL_le k (rds_bytes KW hb) x h
theorem encs_len : ∀ {ws a b : List Int}, a.length = b.length → (encs ws a).length = (encs ws b).length
  | [], _, _, _ => rfl
  | w :: ws, [], [], _ => rfl
  | w :: ws, x :: a, y :: b, h => by
    simp only [encs, List.length_append]
    rw [encs_len (ws := ws) (a := a) (b := b) (by simpa using h)]
    congr 1
    unfold num; (repeat' split) <;> rfl
theorem flat_len {α : Type} {f g : α → List Int} : ∀ {l : List α}, (∀ x ∈ l, (f x).length = (g x).length) → (l.flatMap f).length = (l.flatMap g).length
  | [], _ => rfl
  | a :: l, h => by rw [List.flatMap_cons, List.flatMap_cons, List.length_append, List.length_append, h a (by simp), flat_len fun x hx => h x (by simp [hx])]
theorem flat_eq {α : Type} {f g : α → List Int} : ∀ {l : List α}, (∀ x ∈ l, (f x).length = (g x).length) → l.flatMap f = l.flatMap g → ∀ x ∈ l, f x = g x
  | [], _, _, _, h => by cases h
  | a :: l, h, e, x, hx => by
    rw [List.flatMap_cons, List.flatMap_cons] at e
    obtain ⟨e1, e2⟩ := List.append_inj e (h a (by simp))
    rcases List.mem_cons.1 hx with rfl | hx
    · exact e1
    · exact flat_eq (fun x hx => h x (by simp [hx])) e2 x hx
theorem list5 {x : List Int} (h : x.length = 5) : x = [x.getD 0 0, x.getD 1 0, x.getD 2 0, x.getD 3 0, x.getD 4 0] := by
  match x, h with
  | [a, b, c, d, e], _ => rfl
theorem list8 {x : List Int} (h : x.length = 8) : x = [x.getD 0 0, x.getD 1 0, x.getD 2 0, x.getD 3 0, x.getD 4 0, x.getD 5 0, x.getD 6 0, x.getD 7 0] := by
  match x, h with
  | [a, b, c, d, e, f, g, i], _ => rfl
theorem knOf_enc {x : List Int} (h : x.length = 5) (hm : 0 ≤ x.getD 4 0 ∧ x.getD 4 0 ≤ 1) : (knOf x).nums = x := by
  rw [list5 h] at hm ⊢
  simp only [List.getD_cons_zero, List.getD_cons_succ] at hm
  simp only [knOf, Kn.nums, bit, List.getD_cons_zero, List.getD_cons_succ]
  generalize x.getD 4 0 = m at *
  have : m = 0 ∨ m = 1 := by omega
  rcases this with rfl | rfl <;> simp
theorem mark_of {x : List Int} (hb : 0 ≤ x.getD 4 0 ∧ x.getD 4 0 ≤ 255) (h : x.length = 5) (e : encs KW x = encs KW (knOf x).nums) : x.getD 4 0 ≤ 1 := by
  rw [list5 h] at e hb ⊢
  simp only [List.getD_cons_zero, List.getD_cons_succ] at hb ⊢
  simp only [knOf, Kn.nums, encs, List.getD_cons_zero, List.getD_cons_succ, List.append_nil] at e
  have e1 := List.append_cancel_left e
  have e2 := List.append_cancel_left e1
  have e3 := List.append_cancel_left e2
  have e4 := List.append_cancel_left e3
  simp only [num, if_true] at e4
  have e5 := (List.cons.inj e4).1
  unfold bit at e5
  split at e5 <;> omega
theorem rd_enc {l h : List Int} {s1 : Sc} {ns : List Int} {s2 : Sc} {m : Int} {s3 : Sc} {ls : List (List Int)} {s4 : Sc} (hb : Bytes l) (r : Rd l h s1 ns s2 m s3 ls s4) (h0 : s4.2 = 0) :
    l = encs HW h ++ (ns.flatMap (fun n => num n 1) ++ (num m 2 ++ (ls.flatMap (fun n => encs KW n) ++ s4.1))) ∧ h.length = 8 ∧ (ns.length : Int) = h.getD 7 0 ∧ (ls.length : Int) = m ∧ (∀ x ∈ ls, x.length = 5) ∧ (∀ x ∈ ls, ∀ y ∈ x, 0 ≤ y) := by
  obtain ⟨e1, e2, e3, e4⟩ := r
  have b1 : Bytes s1.1 := by have := rds_bytes HW (σ := (l, 0)) hb; rwa [e1] at this
  have b2 : Bytes s2.1 := by have := rdN_bytes (h.getD 7 0).toNat b1; rwa [e2] at this
  have b3 : Bytes s3.1 := by have := tk_bytes (w := 2) b2; rwa [e3] at this
  have i4 := rdL_inv m.toNat b3; rw [e4] at i4
  obtain ⟨z3, n4, l5, c4⟩ := i4 h0
  have i3 := tk_inv (w := 2) b2 (by decide); rw [e3] at i3
  obtain ⟨z2, c3⟩ := i3 z3
  have i2 := rdN_inv (h.getD 7 0).toNat b1; rw [e2] at i2
  obtain ⟨z1, n2, c2⟩ := i2 z2
  have i1 := rds_inv HW (σ := (l, 0)) hb (by unfold WOk; decide); rw [e1] at i1
  obtain ⟨_, c1⟩ := i1 z1
  have hl : h.length = 8 := by have := rds_length HW (σ := (l, 0)); rwa [e1] at this
  have p1 := rds_nn HW (σ := (l, 0)) hb; rw [e1] at p1
  have p7 : 0 ≤ h.getD 7 0 := p1 _ (getD_mem (by rw [hl]; omega))
  have p3 := tk_nn (w := 2) b2; rw [e3] at p3
  have p4 := rdL_nn m.toNat b3; rw [e4] at p4
  simp only at c1 c2 c3 c4 n2 n4 p1 p3 p4 l5
  refine ⟨?_, hl, by omega, by omega, l5, p4⟩
  rw [← c4, ← c3, ← c2]; exact c1
theorem wdOf_enc {h ns : List Int} {ls : List (List Int)} (hl : h.length = 8) (hn : (ns.length : Int) = h.getD 7 0) : (wdOf h ns ls).enc = encs HW h ++ (ns.flatMap (fun n => num n 1) ++ (num ls.length 2 ++ ls.flatMap fun x => encs KW (knOf x).nums)) := by
  unfold Wd.enc wdOf Wd.hd
  simp only [List.length_map, List.flatMap_map]
  rw [hn, ← list8 hl]
theorem impl_ref {l h : List Int} {s1 : Sc} {ns : List Int} {s2 : Sc} {m : Int} {s3 : Sc} {ls : List (List Int)} {s4 : Sc} (hb : Bytes l) (r : Rd l h s1 ns s2 m s3 ls s4) :
    implOk ls s4 (wdOf h ns ls) ↔ refOk l s4 (wdOf h ns ls) := by
  constructor
  · rintro ⟨a, b, c⟩
    unfold endV at b
    have h0 : s4.2 = 0 := by split at b <;> assumption
    rw [if_pos h0] at b
    have hl0 : s4.1 = [] := by
      split at b
      · rename_i e; exact List.length_eq_zero_iff.1 e
      · omega
    obtain ⟨e, h8, hn, hm, h5, hp⟩ := rd_enc hb r h0
    refine ⟨h0, c, ?_⟩
    have hk : ls.flatMap (fun x => encs KW (knOf x).nums) = ls.flatMap (fun x => encs KW x) := by
      rw [List.flatMap_def, List.flatMap_def]; congr 1
      refine List.map_congr_left fun x hx => ?_
      have h4 : x.getD 4 0 ∈ x := getD_mem (by rw [h5 x hx]; omega)
      rw [knOf_enc (h5 x hx) ⟨hp x hx _ h4, a x hx⟩]
    rw [wdOf_enc h8 hn, hm, hk, e, hl0, List.append_nil]
  · rintro ⟨h0, c, d⟩
    obtain ⟨e, h8, hn, hm, h5, hp⟩ := rd_enc hb r h0
    rw [wdOf_enc h8 hn, hm] at d
    have hbl := hb
    rw [e] at d hbl
    have d1 := List.append_cancel_left d
    have d2 := List.append_cancel_left d1
    have d3 := List.append_cancel_left d2
    have hlen := flat_len (l := ls) (f := fun x => encs KW (knOf x).nums) (g := fun x => encs KW x) fun x hx => encs_len (by rw [h5 x hx]; rfl)
    have hl0 : s4.1 = [] := by
      have := congrArg List.length d3
      rw [List.length_append] at this
      exact List.length_eq_zero_iff.1 (by omega)
    rw [hl0, List.append_nil] at d3
    have each := flat_eq (l := ls) (f := fun x => encs KW x) (g := fun x => encs KW (knOf x).nums) (fun x hx => encs_len (by rw [h5 x hx]; rfl)) d3.symm
    refine ⟨fun x hx => ?_, by unfold endV; rw [if_pos h0, hl0]; rfl, c⟩
    have h4 : x.getD 4 0 ∈ x := getD_mem (by rw [h5 x hx]; omega)
    by_cases h255 : x.getD 4 0 ≤ 255
    · exact mark_of ⟨hp x hx _ h4, h255⟩ (h5 x hx) (each x hx)
    · exfalso
      have i4 := rdL_le m.toNat (σ := s3) (by
        have b1 : Bytes s1.1 := by have := rds_bytes HW (σ := (l, 0)) hb; rwa [r.e1] at this
        have b2 : Bytes s2.1 := by have := rdN_bytes (h.getD 7 0).toNat b1; rwa [r.e2] at this
        have := tk_bytes (w := 2) b2; rwa [r.e3] at this)
      rw [r.e4] at i4
      exact h255 (i4 x hx)
/-- The word of its bytes. -/
structure Fit (w : Wd) : Prop where
  hd : Fits HW w.hd
  ns : ∀ n ∈ w.ns, 0 ≤ n ∧ n ≤ 255
  ll : (w.ls.length : Int) ≤ 65535
  ls : ∀ k ∈ w.ls, Fits KW k.nums
theorem rd_of {w : Wd} (f : Fit w) {h : List Int} {s1 : Sc} {ns : List Int} {s2 : Sc} {m : Int} {s3 : Sc} {ls : List (List Int)} {s4 : Sc} (r : Rd w.enc h s1 ns s2 m s3 ls s4) :
    wdOf h ns ls = w ∧ s4 = ([], 0) ∧ marks ls := by
  obtain ⟨e1, e2, e3, e4⟩ := r
  unfold Wd.enc at e1
  rw [rds_num f.hd] at e1
  injection e1 with e1 e1'
  subst e1; subst e1'
  have hn : (w.hd.getD 7 0).toNat = w.ns.length := by simp [Wd.hd]
  rw [hn, rdN_num w.ns f.ns] at e2
  injection e2 with e2 e2'
  subst e2; subst e2'
  rw [tk_num (by decide) ⟨by omega, by have := f.ll; unfold topV; simp; omega⟩] at e3
  injection e3 with e3 e3'
  subst e3; subst e3'
  have e5 : (w.ls.flatMap fun k => encs KW k.nums) = (w.ls.map Kn.nums).flatMap (fun n => encs KW n) ++ [] := by rw [List.append_nil, List.flatMap_map]
  rw [e5, show ((w.ls.length : Int)).toNat = (w.ls.map Kn.nums).length from by simp, rdL_num (w.ls.map Kn.nums) (fun n hn => by
    obtain ⟨k, hk, rfl⟩ := List.mem_map.1 hn; exact f.ls k hk)] at e4
  injection e4 with e4 e4'
  subst e4; subst e4'
  refine ⟨?_, rfl, fun x hx => ?_⟩
  · have : (w.ls.map Kn.nums).map knOf = w.ls := by
      rw [List.map_map]; conv => rhs; rw [← List.map_id w.ls]
      exact List.map_congr_left fun k _ => knOf_nums k
    unfold wdOf
    rw [this]; rfl
  · obtain ⟨k, _, rfl⟩ := List.mem_map.1 hx
    show bit k.m ≤ 1
    unfold bit; split <;> omega
theorem enc_inj {a b : Wd} (fa : Fit a) (fb : Fit b) (h : a.enc = b.enc) : a = b := by
  obtain ⟨hh, s1, ns, s2, m, s3, ls, s4, r⟩ := rd_all a.enc
  have ra := (rd_of fa r).1
  rw [h] at r
  exact ra.symm.trans (rd_of fb r).1
/-! ### what may be fits -/
theorem rising : ∀ (n : Nat) (ns : List Int), (∀ i, nsOk ns i) → ∀ i (x : Int), i < n → ns[i]? = some x → (i : Int) < x ∧ x ≤ 64
  | 0, _, _, _, _, h, _ => by omega
  | n + 1, ns, h, i, x, hi, hx => by
    obtain ⟨⟨a, b⟩, c⟩ := h i x hx
    refine ⟨?_, b⟩
    by_cases h0 : i = 0
    · omega
    · have hl : i - 1 < ns.length := by have := (List.getElem?_eq_some_iff.1 hx).1; omega
      have hy : ns[i - 1]? = some ns[i - 1] := List.getElem?_eq_getElem hl
      have := (rising n ns h (i - 1) _ (by omega) hy).1
      have := c _ (by omega) hy
      omega
theorem ns_len {ns : List Int} (h : ∀ i, nsOk ns i) : ns.length ≤ 64 := by
  by_cases h0 : ns.length = 0
  · omega
  · have hy : ns[ns.length - 1]? = some ns[ns.length - 1] := List.getElem?_eq_getElem (by omega)
    have := rising ns.length ns h (ns.length - 1) _ (by omega) hy
    omega
theorem ns_mem {ns : List Int} (h : ∀ i, nsOk ns i) {x : Int} (hx : x ∈ ns) : nodeOk x := by
  obtain ⟨i, hi, rfl⟩ := List.getElem_of_mem hx
  exact (h i _ (List.getElem?_eq_getElem hi)).1
theorem view_fit {w : Wd} (hd : 0 ≤ w.kind ∧ w.kind ≤ 255) (he : 0 ≤ w.epoch ∧ w.epoch ≤ 2147483647) (hr : 0 ≤ w.root ∧ w.root ≤ 255) (hk : 0 ≤ w.ch.kind ∧ w.ch.kind ≤ 255) (ha : 0 ≤ w.ch.a ∧ w.ch.a ≤ 255) (hb : 0 ≤ w.ch.b ∧ w.ch.b ≤ 255) (hs : 0 ≤ w.ch.ses ∧ w.ch.ses ≤ 2147483647)
    (hv : w.empty ∨ w.full) : Fit w := by
  have t1 : topV 1 = 255 := rfl
  have t4 : topV 4 = 2147483647 := rfl
  have hn : w.ns.length ≤ 64 := by
    rcases hv with h | h
    · rw [h.1]; simp
    · exact ns_len h.2.2.1
  refine ⟨?_, ?_, ?_, ?_⟩
  · exact .cons (by decide) hd (.cons (by decide) (by rw [t4]; exact he) (.cons (by decide) hr (.cons (by decide) hk (.cons (by decide) ha (.cons (by decide) hb (.cons (by decide) (by rw [t4]; exact hs) (.cons (by decide) (by rw [t1]; omega) .nil)))))))
  · rcases hv with h | h
    · rw [h.1]; intro n hn; cases hn
    · intro n hn; have := ns_mem h.2.2.1 hn; unfold nodeOk at this; omega
  · rcases hv with h | h
    · rw [h.2]; simp
    · have := h.2.1; omega
  · rcases hv with h | h
    · rw [h.2]; intro n hn; cases hn
    · intro k hk
      obtain ⟨i, hi, rfl⟩ := List.getElem_of_mem hk
      obtain ⟨⟨a, b, _, c, d, e, f⟩, _⟩ := h.2.2.2 i _ (List.getElem?_eq_getElem hi)
      have a := ns_mem h.2.2.1 a
      unfold nodeOk at a b
      refine .cons (by decide) (by rw [t1]; omega) (.cons (by decide) (by rw [t1]; omega) (.cons (by decide) (by rw [t4]; omega) (.cons (by decide) (by rw [t4]; omega) (.cons (by decide) ?_ .nil))))
      rw [t1]; unfold bit; split <;> omega
theorem Wd.may.fit {w : Wd} (h : w.may) : Fit w := by
  unfold Wd.may Wd.named Wd.silent eidMay nodeOk at h
  rcases h with ⟨a, ⟨b, c⟩, d, e⟩ | ⟨a, ⟨b, c⟩, d, e⟩ | ⟨a, ⟨b, c⟩, d, e⟩ | ⟨a, b, c, d, e⟩
  · refine view_fit ?_ ?_ ?_ ?_ ?_ ?_ ?_ (.inl d) <;> (try rw [e]) <;> (try simp only) <;> omega
  · refine view_fit ?_ ?_ ?_ ?_ ?_ ?_ ?_ (.inr d) <;> (try rw [e]) <;> (try simp only) <;> omega
  · unfold chMay nodeOk at d
    refine view_fit ?_ ?_ ?_ ?_ ?_ ?_ ?_ (e.elim (fun x => .inr x.2) (fun x => .inl x.2)) <;> omega
  · refine view_fit ?_ ?_ ?_ ?_ ?_ ?_ ?_ (.inl d) <;> (try rw [e]) <;> (try simp only) <;> omega
end Go.Proofs.Ytnkiocnnekgioaa.WP
