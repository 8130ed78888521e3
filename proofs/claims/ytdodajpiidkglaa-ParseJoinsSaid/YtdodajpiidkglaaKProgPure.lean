/- What parse.Rule and parse.Program compute, on a list of tokens: plain Lean. No conditions beyond those of each lemma. -/
import Derived.Test.YtdodajpiidkglaaKParsePure
namespace Go.Proofs.Ytdodajpiidkglaa.K
open Go.RowKit Go.Proofs.YtdodajpiidkglaaW.PrintWords Go.Proofs.Ytdodajpiidkglaa.PAll
set_option linter.unusedVariables false

/-- A digit's value, as the program reckons it (a byte less 48). -/
def digV (d : UInt8) : Nat := (d.toNat + 208) % 256

/-- An arity's digits (at: where the number begins). -/
def digitsQ (at_ : Nat) : List UInt8 → Nat → Nat → Except Nat Nat
  | [], _, n => .ok n
  | d :: r, i, n => if 16 < 10 * n + digV d ∨ (0 < i ∧ n = 0) then .error (at_ + i) else digitsQ at_ r (i + 1) (10 * n + digV d)

def arityQ (c : Src) (i : Nat) : Except Nat ((ByteArray × Nat) × Nat) :=
  match takeP c i [1] with
  | .error a => .error a
  | .ok (t, i1) => match takeP c i1 [12] with
    | .error a => .error a
    | .ok (_, i2) => match takeP c i2 [3] with
      | .error a => .error a
      | .ok (u, i3) => match digitsQ u.a u.t.data.toList 0 0 with
        | .error a => .error a
        | .ok n => .ok ((t.t, n), i3)

/-- A statement and its place. -/
inductive Stm where
  | inp (x : S86) (a : Nat)
  | out (x : S88) (a : Nat)
  | rul (x : S29) (a : Nat)

def statementP (c : Src) (i : Nat) : Except Nat (Stm × Nat) :=
  match takeP c i [1, 5, 6] with
  | .error a => .error a
  | .ok (t, i1) =>
    if t.k = 5 then (match arityQ c i1 with
      | .error a => .error a
      | .ok (pn, i2) => match takeP c i2 [4] with
        | .error a => .error a
        | .ok (u, i3) => match takeP c i3 [11] with
          | .error a => .error a
          | .ok (_, i4) => .ok (.inp ⟨pn.1, (pn.2 : Int), u.t⟩ t.a, i4))
    else if t.k = 6 then (match arityQ c i1 with
      | .error a => .error a
      | .ok (pn, i2) => match takeP c i2 [11] with
        | .error a => .error a
        | .ok (_, i3) => .ok (.out ⟨pn.1, (pn.2 : Int)⟩ t.a, i3))
    else (match ruleP c i1 t.t with
      | .error a => .error a
      | .ok (r, i2) => .ok (.rul r t.a, i2))

/-- The statements of a text, one behind the other. -/
def programL (c : Src) : Nat → Nat → List Stm → Except Nat (List Stm × Nat)
  | 0, i, acc => .error 0
  | n + 1, i, acc => if i < c.T.length then (match statementP c i with
      | .error a => .error a
      | .ok (x, i1) => programL c n i1 (acc ++ [x])) else .ok (acc, i)

/-- A text's tokens. -/
def src (s : ByteArray) : Src := ⟨(toks s).1, (toks s).2.1, (toks s).2.2.1⟩

def programC (c : Src) (size : Nat) : Except Nat (List Stm × Nat) :=
  match programL c (c.T.length + 1) 0 [] with
  | .error a => .error a
  | .ok (l, i) => if c.far < size ∨ c.o.k ≠ 0 then .error (stopP c i [1, 5, 6]) else .ok (l, i)

/-- parse.Program of a text: its statements, or the offset. -/
def programP (s : ByteArray) : Except Nat (List Stm) :=
  match programC (src s) s.size with
  | .error a => .error a
  | .ok (l, _) => .ok l

def ruleC (c : Src) (size : Nat) : Except Nat (S29 × Nat) :=
  match takeP c 0 [1] with
  | .error a => .error a
  | .ok (t, i1) => match ruleP c i1 t.t with
    | .error a => .error a
    | .ok (r, i2) => if i2 < c.T.length ∨ c.far < size ∨ c.o.k ≠ 0 then .error (stopP c i2 []) else .ok (r, i2)

/-- parse.Rule of a text: the rule, or the offset. -/
def ruleT (s : ByteArray) : Except Nat S29 :=
  match ruleC (src s) s.size with
  | .error a => .error a
  | .ok (r, _) => .ok r

def insOf (l : List Stm) : List S86 := l.filterMap fun | .inp x _ => some x | _ => none
def outsOf (l : List Stm) : List S88 := l.filterMap fun | .out x _ => some x | _ => none
def rulesOf (l : List Stm) : List S29 := l.filterMap fun | .rul x _ => some x | _ => none
def insAt (l : List Stm) : List Int := l.filterMap fun | .inp _ a => some (a : Int) | _ => none
def outsAt (l : List Stm) : List Int := l.filterMap fun | .out _ a => some (a : Int) | _ => none
def rulesAt (l : List Stm) : List Int := l.filterMap fun | .rul _ a => some (a : Int) | _ => none

theorem arityQ_le {c : Src} {i : Nat} {x : ByteArray × Nat} {j : Nat} (h : arityQ c i = .ok (x, j)) : j = i + 3 ∧ j ≤ c.T.length := by
  unfold arityQ at h
  split at h
  · cases h
  · rename_i _ i1 h1
    have h1 := takeP_lt rfl h1
    split at h
    · cases h
    · rename_i _ i2 h2
      have h2 := takeP_lt rfl h2
      split at h
      · cases h
      · rename_i _ i3 h3
        have h3 := takeP_lt rfl h3
        split at h
        · cases h
        · injection h with h
          injection h with _ h4
          omega
theorem statementP_le {c : Src} {i : Nat} {x : Stm} {j : Nat} (h : statementP c i = .ok (x, j)) : i < j ∧ j ≤ c.T.length := by
  unfold statementP at h
  split at h
  · cases h
  · rename_i t i1 h1
    have h1 := takeP_lt rfl h1
    split at h
    · split at h
      · cases h
      · rename_i _ i2 h2
        have h2 := arityQ_le h2
        split at h
        · cases h
        · rename_i _ i3 h3
          have h3 := takeP_lt rfl h3
          split at h
          · cases h
          · rename_i _ i4 h4
            have h4 := takeP_lt rfl h4
            injection h with h
            injection h with _ h5
            omega
    · split at h
      · split at h
        · cases h
        · rename_i _ i2 h2
          have h2 := arityQ_le h2
          split at h
          · cases h
          · rename_i _ i3 h3
            have h3 := takeP_lt rfl h3
            injection h with h
            injection h with _ h5
            omega
      · split at h
        · cases h
        · rename_i _ i2 h2
          have h2 := ruleP_le h1.2.1 h2
          injection h with h
          injection h with _ h5
          omega
theorem programL_le {c : Src} : ∀ (n i : Nat) (acc l : List Stm) (j : Nat), i ≤ c.T.length → programL c n i acc = .ok (l, j) → j = c.T.length
  | 0, i, acc, l, j, _, h => by simp [programL] at h
  | n + 1, i, acc, l, j, hi, h => by
    unfold programL at h
    split at h
    · split at h
      · cases h
      · rename_i x i1 h1
        exact programL_le n _ _ _ _ (statementP_le h1).2 h
    · injection h with h
      injection h with _ h2
      omega
end Go.Proofs.Ytdodajpiidkglaa.K
