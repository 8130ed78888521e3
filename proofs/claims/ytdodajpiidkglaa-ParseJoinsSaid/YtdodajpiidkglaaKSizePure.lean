/- How long the lists are that the parser makes. Plain Lean; no conditions beyond those of each lemma. -/
import Derived.Test.YtdodajpiidkglaaKCaught
import Derived.Test.YtdodajpiidkglaaKKit
namespace Go.Proofs.Ytdodajpiidkglaa.K
open Go.RowKit Go.Proofs.YtdodajpiidkglaaW.PrintWords Go.Proofs.Ytdodajpiidkglaa.PAll
set_option linter.unusedVariables false

theorem argsL_len {c : Src} : ∀ (m i : Nat) (acc l : List S61) (j : Nat), argsL c m i acc = .ok (l, j) → l.length ≤ acc.length + m
  | 0, i, acc, l, j, h => by simp [argsL] at h
  | m + 1, i, acc, l, j, h => by
    unfold argsL at h
    split at h
    · cases h
    · rename_i x i1 hx
      split at h
      · have := argsL_len m _ _ _ _ h
        simp only [List.length_append, List.length_singleton] at this; omega
      · split at h
        · cases h
        · injection h with h
          injection h with h1 _
          rw [← h1]; simp
theorem argsP_len {c : Src} {i : Nat} {l : List S61} {j : Nat} (h : argsP c i = .ok (l, j)) : l.length ≤ 16 := by
  unfold argsP at h
  split at h
  · have := argsL_len _ _ _ _ _ h; simpa using this
  · injection h with h
    injection h with h1 _
    rw [← h1]; simp
theorem atomP_len {c : Src} {i : Nat} {x : S26} {j : Nat} (h : atomP c i = .ok (x, j)) : x.f1.length ≤ 16 := by
  unfold atomP at h
  split at h
  · cases h
  · split at h
    · cases h
    · rename_i l i2 hl
      injection h with h
      injection h with h1 _
      rw [← h1]; exact argsP_len hl
theorem unlikeP_len {c : Src} {i : Nat} {x : S63} {j : Nat} (h : unlikeP c i = .ok (x, j)) : x.f1.f1.length ≤ 16 := by
  unfold unlikeP at h
  split at h
  · cases h
  · split at h
    · cases h
    · split at h
      · cases h
      · injection h with h
        injection h with h1 _
        rw [← h1]; simp [z26]
theorem literalP_len {c : Src} {i : Nat} {x : S63} {j : Nat} (h : literalP c i = .ok (x, j)) : x.f1.f1.length ≤ 16 := by
  unfold literalP at h
  split at h
  · split at h
    · cases h
    · rename_i y i' h1
      injection h with h
      injection h with h2 _
      rw [← h2]; exact atomP_len h1
  · split at h
    · split at h
      · exact unlikeP_len h
      · split at h
        · cases h
        · rename_i y i' h1
          injection h with h
          injection h with h2 _
          rw [← h2]; exact atomP_len h1
    · split at h
      · exact unlikeP_len h
      · cases h
theorem bodyL_len {c : Src} : ∀ (m i : Nat) (acc l : List S63) (j : Nat), bodyL c m i acc = .ok (l, j) → (∀ x ∈ acc, x.f1.f1.length ≤ 16) → l.length ≤ acc.length + m ∧ ∀ x ∈ l, x.f1.f1.length ≤ 16
  | 0, i, acc, l, j, h, _ => by simp [bodyL] at h
  | m + 1, i, acc, l, j, h, ha => by
    unfold bodyL at h
    split at h
    · cases h
    · rename_i x i1 hx
      have hx' := literalP_len hx
      have ha' : ∀ y ∈ acc ++ [x], y.f1.f1.length ≤ 16 := fun y hy => by
        rcases List.mem_append.1 hy with hy | hy
        · exact ha y hy
        · rw [List.mem_singleton] at hy; rw [hy]; exact hx'
      split at h
      · obtain ⟨h1, h2⟩ := bodyL_len m _ _ _ _ h ha'
        simp only [List.length_append, List.length_singleton] at h1
        exact ⟨by omega, h2⟩
      · injection h with h
        injection h with h1 _
        rw [← h1]; exact ⟨by simp, ha'⟩
def SmallRule (x : S29) : Prop := x.f0.f1.length ≤ 16 ∧ x.f1.length ≤ 256 ∧ ∀ y ∈ x.f1, y.f1.f1.length ≤ 16
theorem ruleP_len {c : Src} {i : Nat} {p : ByteArray} {x : S29} {j : Nat} (h : ruleP c i p = .ok (x, j)) : SmallRule x := by
  unfold ruleP at h
  split at h
  · cases h
  · rename_i l i1 h1
    have h1' := argsP_len h1
    split at h
    · split at h
      · cases h
      · rename_i b i2 h2
        have h2' := bodyL_len _ _ _ _ _ h2 (by simp)
        split at h
        · cases h
        · injection h with h
          injection h with h3 _
          rw [← h3]; exact ⟨h1', by simpa using h2'.1, h2'.2⟩
    · split at h
      · injection h with h
        injection h with h3 _
        rw [← h3]; exact ⟨h1', by simp, by simp⟩
      · cases h
theorem small_S {x : S29} (h : SmallRule x) : RuleS x := by
  refine ⟨by have := h.1; omega, by have := h.2.1; omega, fun k => ?_⟩
  unfold rd_T63
  rw [List.getD_eq_getElem?_getD]
  cases hk : x.f1[k.toNat]? with
  | none => simp [z63, z26]
  | some y =>
    have := h.2.2 y (List.mem_of_getElem? hk)
    simp only [Option.getD_some]; omega
def SmallStm : Stm → Prop
  | .rul x _ => SmallRule x
  | _ => True
theorem statementP_len {c : Src} {i : Nat} {x : Stm} {j : Nat} (h : statementP c i = .ok (x, j)) : SmallStm x := by
  unfold statementP at h
  split at h
  · cases h
  · split at h
    · split at h
      · cases h
      · split at h
        · cases h
        · split at h
          · cases h
          · injection h with h
            injection h with h1 _
            rw [← h1]; exact trivial
    · split at h
      · split at h
        · cases h
        · split at h
          · cases h
          · injection h with h
            injection h with h1 _
            rw [← h1]; exact trivial
      · split at h
        · cases h
        · rename_i r i2 h2
          injection h with h
          injection h with h1 _
          rw [← h1]; exact ruleP_len h2
theorem programL_len {c : Src} : ∀ (n i : Nat) (acc l : List Stm) (j : Nat), i ≤ c.T.length → programL c n i acc = .ok (l, j) → (∀ x ∈ acc, SmallStm x) → l.length + i ≤ acc.length + c.T.length ∧ ∀ x ∈ l, SmallStm x
  | 0, i, acc, l, j, _, h, _ => by simp [programL] at h
  | n + 1, i, acc, l, j, hi, h, ha => by
    unfold programL at h
    split at h
    · split at h
      · cases h
      · rename_i x i1 h1
        have hx := statementP_len h1
        have hle := statementP_le h1
        obtain ⟨h2, h3⟩ := programL_len n _ _ _ _ hle.2 h (fun y hy => by
          rcases List.mem_append.1 hy with hy | hy
          · exact ha y hy
          · rw [List.mem_singleton] at hy; rw [hy]; exact hx)
        simp only [List.length_append, List.length_singleton] at h2
        exact ⟨by omega, h3⟩
    · injection h with h
      injection h with h1 _
      rw [← h1]; exact ⟨by omega, ha⟩
theorem programP_len {s : ByteArray} {l : List Stm} (h : programP s = .ok l) : l.length ≤ s.size ∧ ∀ x ∈ l, SmallStm x := by
  unfold programP programC at h
  cases hp : programL (src s) ((src s).T.length + 1) 0 [] with
  | error a => rw [hp] at h; simp at h
  | ok r =>
    obtain ⟨l2, j⟩ := r
    rw [hp] at h
    simp only at h
    obtain ⟨h1, h2⟩ := programL_len _ _ _ _ _ (Nat.zero_le _) hp (by simp)
    have hs := (toks_size s).1
    have hT : (src s).T = (toks s).1 := rfl
    rw [hT] at h1
    by_cases hb : (src s).far < s.size ∨ (src s).o.k ≠ 0
    · rw [if_pos hb] at h; cases h
    · rw [if_neg hb] at h
      injection h with h
      rw [← h]; exact ⟨by simp only [List.length_nil] at h1; omega, h2⟩
theorem ruleT_len {s : ByteArray} {x : S29} (h : ruleT s = .ok x) : SmallRule x := by
  unfold ruleT ruleC at h
  cases h1 : takeP (src s) 0 [1] with
  | error a => rw [h1] at h; simp at h
  | ok r =>
    rw [h1] at h
    simp only at h
    cases h2 : ruleP (src s) r.2 r.1.t with
    | error a => rw [h2] at h; simp at h
    | ok r2 =>
      obtain ⟨y, j⟩ := r2
      rw [h2] at h
      simp only at h
      by_cases hb : j < (src s).T.length ∨ (src s).far < s.size ∨ (src s).o.k ≠ 0
      · rw [if_pos hb] at h; cases h
      · rw [if_neg hb] at h
        injection h with h
        rw [← h]; exact ruleP_len h2

/-! #### what parse.Program tells, of any text -/
def insR : Except Nat (List Stm) → List S86 | .ok l => insOf l | .error _ => []
def outsR : Except Nat (List Stm) → List S88 | .ok l => outsOf l | .error _ => []
def rulesR : Except Nat (List Stm) → List S29 | .ok l => rulesOf l | .error _ => []
def insA : Except Nat (List Stm) → List Int | .ok l => insAt l | .error _ => []
def outsA : Except Nat (List Stm) → List Int | .ok l => outsAt l | .error _ => []
def rulesA : Except Nat (List Stm) → List Int | .ok l => rulesAt l | .error _ => []
def atR : Except Nat (List Stm) → Int | .ok _ => 0 | .error a => (a : Int)
def errR : Except Nat (List Stm) → Int | .ok _ => 0 | .error _ => 11
theorem prog_S {s : ByteArray} (hs : s.size ≤ 2147483647) : ProgS (insR (programP s)) (outsR (programP s)) (rulesR (programP s)) ∧ (insA (programP s)).length ≤ 2147483647 ∧ (outsA (programP s)).length ≤ 2147483647 ∧ (rulesA (programP s)).length ≤ 2147483647 := by
  cases h : programP s with
  | error a =>
    refine ⟨⟨by simp [insR], by simp [outsR], by simp [rulesR], fun k => ?_⟩, by simp [insA], by simp [outsA], by simp [rulesA]⟩
    refine small_S ?_
    simp [rulesR, rd_T29, z29, z26, SmallRule]
  | ok l =>
    obtain ⟨h1, h2⟩ := programP_len h
    refine ⟨⟨Nat.le_trans (List.length_filterMap_le ..) (by omega), Nat.le_trans (List.length_filterMap_le ..) (by omega), Nat.le_trans (List.length_filterMap_le ..) (by omega), fun k => small_S ?_⟩, Nat.le_trans (List.length_filterMap_le ..) (by omega), Nat.le_trans (List.length_filterMap_le ..) (by omega), Nat.le_trans (List.length_filterMap_le ..) (by omega)⟩
    show SmallRule (rd_T29 (rulesOf l) k)
    unfold rd_T29
    rw [List.getD_eq_getElem?_getD]
    cases hk : (rulesOf l)[k.toNat]? with
    | none => simp [z29, z26, SmallRule]
    | some y =>
      have hm := List.mem_of_getElem? hk
      unfold rulesOf at hm
      rw [List.mem_filterMap] at hm
      obtain ⟨x, hx, hy⟩ := hm
      have := h2 x hx
      cases x <;> simp at hy
      subst hy; exact this
end Go.Proofs.Ytdodajpiidkglaa.K
