/- What the parser computes, on a list of tokens: plain Lean. No conditions beyond those of each lemma. -/
import Derived.Test.YtdodajpiidkglaaKTokens
namespace Go.Proofs.Ytdodajpiidkglaa.K
open Go.RowKit Go.Proofs.YtdodajpiidkglaaW.PrintWords Go.Proofs.Ytdodajpiidkglaa.PAll
set_option linter.unusedVariables false

/-- A text's tokens: all, what is open, how far they go. -/
structure Src where
  T : List Tok
  o : Tok
  far : Nat

def Src.at_ (c : Src) (i : Nat) : Tok := rd_T71 c.T i

/-- Where a text can go on no more, if one of these kinds would be wanted. -/
def stopP (c : Src) (i : Nat) (wl : List Nat) : Nat :=
  if i = c.T.length then (if c.o.k = 0 then c.far else if wl.contains c.o.k then c.far else c.o.a)
  else if (c.at_ i).k = 5 ∨ (c.at_ i).k = 6 ∨ (c.at_ i).k = 7 then (if wl.contains 1 then (c.at_ i).e else (c.at_ i).a)
  else (c.at_ i).a

def takeP (c : Src) (i : Nat) (wl : List Nat) : Except Nat (Tok × Nat) :=
  if wl.contains (c.at_ i).k then .ok (c.at_ i, i + 1) else .error (stopP c i wl)

def termP (c : Src) (i : Nat) : Except Nat (S61 × Nat) :=
  match takeP c i [2, 1, 3, 4] with
  | .ok (t, i') => .ok (⟨t.k == 2, t.t⟩, i')
  | .error a => .error a

/-- The terms behind a bracket (m: how many may still come). -/
def argsL (c : Src) : Nat → Nat → List S61 → Except Nat (List S61 × Nat)
  | 0, i, acc => .error 0
  | m + 1, i, acc =>
    match termP c i with
    | .error a => .error a
    | .ok (x, i1) =>
      if (c.at_ i1).k = 10 ∧ m ≠ 0 then argsL c m (i1 + 1) (acc ++ [x])
      else match takeP c i1 (if m = 0 then [9] else [9, 10]) with
        | .error a => .error a
        | .ok (_, i2) => .ok (acc ++ [x], i2)

def argsP (c : Src) (i : Nat) : Except Nat (List S61 × Nat) :=
  if (c.at_ i).k = 8 then argsL c 16 (i + 1) [] else .ok ([], i)

/-- A name and its terms. -/
def atomP (c : Src) (i : Nat) : Except Nat (S26 × Nat) :=
  match takeP c i [1] with
  | .error a => .error a
  | .ok (t, i1) => match argsP c i1 with
    | .error a => .error a
    | .ok (l, i2) => .ok (⟨t.t, l⟩, i2)

def unlikeP (c : Src) (i : Nat) : Except Nat (S63 × Nat) :=
  match termP c i with
  | .error a => .error a
  | .ok (x, i1) => match takeP c i1 [14] with
    | .error a => .error a
    | .ok (_, i2) => match termP c i2 with
      | .error a => .error a
      | .ok (y, i3) => .ok (⟨3, z26, x, y⟩, i3)

def literalP (c : Src) (i : Nat) : Except Nat (S63 × Nat) :=
  if (c.at_ i).k = 7 then (match atomP c (i + 1) with
    | .error a => .error a
    | .ok (x, i') => .ok (⟨2, x, z61, z61⟩, i'))
  else if (c.at_ i).k = 1 then
    if (i + 1 < c.T.length ∧ (c.at_ (i + 1)).k = 14) ∨ (i + 1 = c.T.length ∧ c.o.k = 14) then unlikeP c i
    else (match atomP c i with
      | .error a => .error a
      | .ok (x, i') => .ok (⟨1, x, z61, z61⟩, i'))
  else if (c.at_ i).k = 2 ∨ (c.at_ i).k = 3 ∨ (c.at_ i).k = 4 then unlikeP c i
  else .error (stopP c i [7, 1, 2, 3, 4])

/-- The literals behind :- (m: how many may still come). -/
def bodyL (c : Src) : Nat → Nat → List S63 → Except Nat (List S63 × Nat)
  | 0, i, acc => .error 0
  | m + 1, i, acc =>
    match literalP c i with
    | .error a => .error a
    | .ok (x, i1) => if (c.at_ i1).k = 10 ∧ m ≠ 0 then bodyL c m (i1 + 1) (acc ++ [x]) else .ok (acc ++ [x], i1)

/-- A rule behind its head's name. -/
def ruleP (c : Src) (i : Nat) (pred : ByteArray) : Except Nat (S29 × Nat) :=
  match argsP c i with
  | .error a => .error a
  | .ok (l, i1) =>
    if (c.at_ i1).k = 13 then (match bodyL c 256 (i1 + 1) [] with
      | .error a => .error a
      | .ok (b, i2) => match takeP c i2 [11] with
        | .error a => .error a
        | .ok (_, i3) => .ok (⟨⟨pred, l⟩, b⟩, i3))
    else if (c.at_ i1).k = 11 then .ok (⟨⟨pred, l⟩, []⟩, i1 + 1)
    else .error (stopP c i1 [11, 13])

/-- An arity's digits (at: where the number begins). -/
def digitsP (at_ : Nat) : List UInt8 → Nat → Nat → Except Nat Nat
  | [], _, n => .ok n
  | d :: r, i, n => if 16 < 10 * n + (d.toNat - 48) ∨ (0 < i ∧ n = 0) then .error (at_ + i) else digitsP at_ r (i + 1) (10 * n + (d.toNat - 48))

def arityP (c : Src) (i : Nat) : Except Nat ((ByteArray × Nat) × Nat) :=
  match takeP c i [1] with
  | .error a => .error a
  | .ok (t, i1) => match takeP c i1 [12] with
    | .error a => .error a
    | .ok (_, i2) => match takeP c i2 [3] with
      | .error a => .error a
      | .ok (u, i3) => match digitsP u.a u.t.data.toList 0 0 with
        | .error a => .error a
        | .ok n => .ok ((t.t, n), i3)

theorem at_kind {c : Src} {i : Nat} (h : c.T.length ≤ i) : c.at_ i = Tok.zero := by
  unfold Src.at_ rd_T71
  rw [List.getD_eq_getElem?_getD, List.getElem?_eq_none h]
  rfl
theorem lt_of_kind {c : Src} {i : Nat} (h : (c.at_ i).k ≠ 0) : i < c.T.length := by
  rcases Nat.lt_or_ge i c.T.length with h1 | h1
  · exact h1
  · rw [at_kind h1] at h; exact absurd rfl h
theorem takeP_lt {c : Src} {i : Nat} {wl : List Nat} {t : Tok} {j : Nat} (hz : wl.contains 0 = false) (h : takeP c i wl = .ok (t, j)) : j = i + 1 ∧ j ≤ c.T.length ∧ t = c.at_ i ∧ wl.contains t.k = true := by
  unfold takeP at h
  split at h
  · rename_i hc
    injection h with h
    injection h with h1 h2
    have hk : (c.at_ i).k ≠ 0 := fun e => by rw [e, hz] at hc; cases hc
    have := lt_of_kind hk
    exact ⟨h2.symm, by omega, h1.symm, by rw [← h1]; exact hc⟩
  · cases h
theorem termP_le {c : Src} {i : Nat} {x : S61} {j : Nat} (h : termP c i = .ok (x, j)) : j = i + 1 ∧ j ≤ c.T.length := by
  unfold termP at h
  split at h
  · rename_i t i' ht
    injection h with h
    injection h with _ h2
    have := takeP_lt rfl ht
    omega
  · cases h
theorem argsL_le {c : Src} : ∀ (m i : Nat) (acc l : List S61) (j : Nat), argsL c m i acc = .ok (l, j) → i < j ∧ j ≤ c.T.length
  | 0, i, acc, l, j, h => by simp [argsL] at h
  | m + 1, i, acc, l, j, h => by
    unfold argsL at h
    split at h
    · cases h
    · rename_i x i1 hx
      have h1 := termP_le hx
      split at h
      · have := argsL_le m _ _ _ _ h; omega
      · split at h
        · cases h
        · rename_i t i2 ht
          injection h with h
          injection h with _ h2
          have := takeP_lt (by split <;> rfl) ht
          omega
theorem argsP_le {c : Src} {i : Nat} {l : List S61} {j : Nat} (hi : i ≤ c.T.length) (h : argsP c i = .ok (l, j)) : i ≤ j ∧ j ≤ c.T.length := by
  unfold argsP at h
  split at h
  · have := argsL_le _ _ _ _ _ h; omega
  · injection h with h
    injection h with _ h2
    omega
theorem atomP_le {c : Src} {i : Nat} {x : S26} {j : Nat} (h : atomP c i = .ok (x, j)) : i < j ∧ j ≤ c.T.length := by
  unfold atomP at h
  split at h
  · cases h
  · rename_i t i1 ht
    have h1 := takeP_lt rfl ht
    split at h
    · cases h
    · rename_i l i2 hl
      have h2 := argsP_le (by omega) hl
      injection h with h
      injection h with _ h3
      omega
theorem unlikeP_le {c : Src} {i : Nat} {x : S63} {j : Nat} (h : unlikeP c i = .ok (x, j)) : i < j ∧ j ≤ c.T.length := by
  unfold unlikeP at h
  split at h
  · cases h
  · rename_i _ i1 h1
    have h1 := termP_le h1
    split at h
    · cases h
    · rename_i _ i2 h2
      have h2 := takeP_lt rfl h2
      split at h
      · cases h
      · rename_i _ i3 h3
        have h3 := termP_le h3
        injection h with h
        injection h with _ h4
        omega
theorem literalP_le {c : Src} {i : Nat} {x : S63} {j : Nat} (h : literalP c i = .ok (x, j)) : i < j ∧ j ≤ c.T.length := by
  unfold literalP at h
  split at h
  · split at h
    · cases h
    · rename_i _ i' h1
      have := atomP_le h1
      injection h with h
      injection h with _ h4
      omega
  · split at h
    · split at h
      · exact unlikeP_le h
      · split at h
        · cases h
        · rename_i _ i' h1
          have := atomP_le h1
          injection h with h
          injection h with _ h4
          omega
    · split at h
      · exact unlikeP_le h
      · cases h
theorem bodyL_le {c : Src} : ∀ (m i : Nat) (acc l : List S63) (j : Nat), bodyL c m i acc = .ok (l, j) → i < j ∧ j ≤ c.T.length
  | 0, i, acc, l, j, h => by simp [bodyL] at h
  | m + 1, i, acc, l, j, h => by
    unfold bodyL at h
    split at h
    · cases h
    · rename_i x i1 hx
      have h1 := literalP_le hx
      split at h
      · have := bodyL_le m _ _ _ _ h; omega
      · injection h with h
        injection h with _ h2
        omega
theorem ruleP_le {c : Src} {i : Nat} {p : ByteArray} {x : S29} {j : Nat} (hi : i ≤ c.T.length) (h : ruleP c i p = .ok (x, j)) : i < j ∧ j ≤ c.T.length := by
  unfold ruleP at h
  split at h
  · cases h
  · rename_i l i1 h1
    have h1 := argsP_le hi h1
    split at h
    · split at h
      · cases h
      · rename_i b i2 h2
        have h2 := bodyL_le _ _ _ _ _ h2
        split at h
        · cases h
        · rename_i t i3 h3
          have h3 := takeP_lt rfl h3
          injection h with h
          injection h with _ h4
          omega
    · split at h
      · rename_i hk
        have := lt_of_kind (c := c) (i := i1) (by omega)
        injection h with h
        injection h with _ h4
        omega
      · cases h
end Go.Proofs.Ytdodajpiidkglaa.K
