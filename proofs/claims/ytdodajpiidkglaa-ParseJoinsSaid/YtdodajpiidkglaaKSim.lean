/- Two lists of tokens that are alike but for their places: what the parser makes of them is alike. Plain Lean; no conditions beyond those of each lemma. Tokens of two texts with a byte 10 between. Plain Lean; no conditions beyond those of each lemma. Two programs' texts with a byte 10 between: what the parser makes of them. Plain Lean; no conditions beyond those of each lemma. Blanks and remarks behind a byte 10 change nothing: plain Lean. No conditions beyond those of each lemma. -/
import Derived.Test.YtdodajpiidkglaaKProgPure
namespace Go.Proofs.Ytdodajpiidkglaa.K
open Go.RowKit Go.Proofs.YtdodajpiidkglaaW.PrintWords Go.Proofs.Ytdodajpiidkglaa.PAll
set_option linter.unusedVariables false

/-- Both a fault (at places that E joins), or both a result (that R joins), the second n tokens on. -/
def Rel (E : Nat → Nat → Prop) (n : Nat) {α β : Type} (R : α → β → Prop) : Except Nat (α × Nat) → Except Nat (β × Nat) → Prop
  | .error a, .error b => E a b
  | .ok x, .ok y => R x.1 y.1 ∧ y.2 = x.2 + n
  | _, _ => False

theorem Rel.cases {E : Nat → Nat → Prop} {n : Nat} {α β : Type} {R : α → β → Prop} {A : Except Nat (α × Nat)} {B : Except Nat (β × Nat)} (h : Rel E n R A B) :
    (∃ a b, A = .error a ∧ B = .error b ∧ E a b) ∨ ∃ x y j, A = .ok (x, j) ∧ B = .ok (y, j + n) ∧ R x y := by
  rcases A with a | ⟨x, j⟩
  · rcases B with b | ⟨y, k⟩
    · exact .inl ⟨a, b, rfl, rfl, h⟩
    · exact h.elim
  · rcases B with b | ⟨y, k⟩
    · exact h.elim
    · obtain ⟨h1, h2⟩ := h
      simp only at h1 h2
      subst h2
      exact .inr ⟨x, y, j, rfl, rfl, h1⟩

/-- Tokens alike: E joins the places. -/
structure TR (E : Nat → Nat → Prop) (t u : Tok) : Prop where
  kk : u.k = t.k
  tt : u.t = t.t
  aa : ∀ m, m ≤ t.t.size → E (t.a + m) (u.a + m)
  ee : E t.e u.e

structure Sim (E : Nat → Nat → Prop) (n : Nat) (c d : Src) : Prop where
  len : d.T.length = c.T.length + n
  tok : ∀ i, i < c.T.length → TR E (c.at_ i) (d.at_ (i + n))
  ok : d.o.k = c.o.k
  oa : c.o.k ≠ 0 → E c.o.a d.o.a
  far : E c.far d.far

def StmR (E : Nat → Nat → Prop) : Stm → Stm → Prop
  | .inp x a, .inp y b => x = y ∧ E a b
  | .out x a, .out y b => x = y ∧ E a b
  | .rul x a, .rul y b => x = y ∧ E a b
  | _, _ => False

section
variable {E : Nat → Nat → Prop} {n : Nat} {c d : Src}
theorem Sim.kind (h : Sim E n c d) (i : Nat) : (d.at_ (i + n)).k = (c.at_ i).k := by
  rcases Nat.lt_or_ge i c.T.length with hi | hi
  · exact (h.tok i hi).kk
  · rw [at_kind hi, at_kind (by rw [h.len]; omega)]
theorem stop_sim (h : Sim E n c d) (i : Nat) (hi : i ≤ c.T.length) (wl : List Nat) : E (stopP c i wl) (stopP d (i + n) wl) := by
  unfold stopP
  by_cases hl : i = c.T.length
  · rw [if_pos hl, if_pos (c := i + n = d.T.length) (by rw [h.len]; omega), h.ok]
    by_cases h0 : c.o.k = 0
    · rw [if_pos h0, if_pos h0]; exact h.far
    · rw [if_neg h0, if_neg h0]
      cases wl.contains c.o.k
      · exact h.oa h0
      · exact h.far
  · rw [if_neg hl, if_neg (c := i + n = d.T.length) (by rw [h.len]; omega), h.kind]
    have ht := h.tok i (by omega)
    have ha := ht.aa 0 (Nat.zero_le _)
    simp only [Nat.add_zero] at ha
    split
    · split
      · exact ht.ee
      · exact ha
    · exact ha
theorem take_sim (h : Sim E n c d) (i : Nat) (hi : i ≤ c.T.length) (wl : List Nat) (hz : wl.contains 0 = false) : Rel E n (TR E) (takeP c i wl) (takeP d (i + n) wl) := by
  unfold takeP
  rw [h.kind]
  by_cases hc : wl.contains (c.at_ i).k = true
  · rw [if_pos hc, if_pos hc]
    have hk : (c.at_ i).k ≠ 0 := fun e => by rw [e, hz] at hc; cases hc
    exact ⟨h.tok i (lt_of_kind hk), by show i + n + 1 = i + 1 + n; omega⟩
  · rw [if_neg hc, if_neg hc]
    exact stop_sim h i hi wl
theorem term_sim (h : Sim E n c d) (i : Nat) (hi : i ≤ c.T.length) : Rel E n Eq (termP c i) (termP d (i + n)) := by
  unfold termP
  rcases (take_sim h i hi [2, 1, 3, 4] rfl).cases with ⟨a, b, e1, e2, he⟩ | ⟨x, y, j, e1, e2, hr⟩
  · rw [e1, e2]; exact he
  · rw [e1, e2]; exact ⟨by simp only [hr.kk, hr.tt], rfl⟩
theorem argsL_sim (h : Sim E n c d) : ∀ (m i : Nat) (acc : List S61), i ≤ c.T.length → m ≠ 0 → Rel E n Eq (argsL c m i acc) (argsL d m (i + n) acc)
  | 0, i, acc, _, h0 => absurd rfl h0
  | m + 1, i, acc, hi, h0 => by
    unfold argsL
    rcases (term_sim h i hi).cases with ⟨a, b, e1, e2, he⟩ | ⟨x, y, j, e1, e2, rfl⟩
    · rw [e1, e2]; exact he
    · have hj := (termP_le e1).2
      rw [e1, e2]
      simp only
      rw [h.kind]
      by_cases hgo : (c.at_ j).k = 10 ∧ m ≠ 0
      · rw [if_pos hgo, if_pos hgo]
        have hlt := lt_of_kind (c := c) (i := j) (by omega)
        rw [show j + n + 1 = j + 1 + n by omega]
        exact argsL_sim h m (j + 1) _ (by omega) hgo.2
      · rw [if_neg hgo, if_neg hgo]
        rcases (take_sim h j hj (if m = 0 then [9] else [9, 10]) (by split <;> rfl)).cases with ⟨a, b, e3, e4, he⟩ | ⟨t, u, k, e3, e4, hr⟩
        · rw [e3, e4]; exact he
        · rw [e3, e4]; exact ⟨rfl, rfl⟩
theorem args_sim (h : Sim E n c d) (i : Nat) (hi : i ≤ c.T.length) : Rel E n Eq (argsP c i) (argsP d (i + n)) := by
  unfold argsP
  rw [h.kind]
  by_cases h8 : (c.at_ i).k = 8
  · rw [if_pos h8, if_pos h8, show i + n + 1 = i + 1 + n by omega]
    have hlt := lt_of_kind (c := c) (i := i) (by omega)
    exact argsL_sim h 16 (i + 1) [] (by omega) (by decide)
  · rw [if_neg h8, if_neg h8]; exact ⟨rfl, rfl⟩
theorem atom_sim (h : Sim E n c d) (i : Nat) (hi : i ≤ c.T.length) : Rel E n Eq (atomP c i) (atomP d (i + n)) := by
  unfold atomP
  rcases (take_sim h i hi [1] rfl).cases with ⟨a, b, e1, e2, he⟩ | ⟨t, u, j, e1, e2, ht⟩
  · rw [e1, e2]; exact he
  · rw [e1, e2]
    simp only
    rcases (args_sim h j (takeP_lt rfl e1).2.1).cases with ⟨a, b, e3, e4, he⟩ | ⟨x, y, k, e3, e4, rfl⟩
    · rw [e3, e4]; exact he
    · rw [e3, e4]; exact ⟨by simp only [ht.tt], rfl⟩
theorem unlike_sim (h : Sim E n c d) (i : Nat) (hi : i ≤ c.T.length) : Rel E n Eq (unlikeP c i) (unlikeP d (i + n)) := by
  unfold unlikeP
  rcases (term_sim h i hi).cases with ⟨a, b, e1, e2, he⟩ | ⟨x, y, j, e1, e2, rfl⟩
  · rw [e1, e2]; exact he
  · rw [e1, e2]
    simp only
    rcases (take_sim h j (termP_le e1).2 [14] rfl).cases with ⟨a, b, e3, e4, he⟩ | ⟨t, u, k, e3, e4, ht⟩
    · rw [e3, e4]; exact he
    · rw [e3, e4]
      simp only
      rcases (term_sim h k (takeP_lt rfl e3).2.1).cases with ⟨a, b, e5, e6, he⟩ | ⟨x2, y2, m, e5, e6, rfl⟩
      · rw [e5, e6]; exact he
      · rw [e5, e6]; exact ⟨rfl, rfl⟩
theorem literal_sim (h : Sim E n c d) (i : Nat) (hi : i ≤ c.T.length) : Rel E n Eq (literalP c i) (literalP d (i + n)) := by
  unfold literalP
  rw [h.kind, show i + n + 1 = i + 1 + n by omega, h.kind (i + 1), h.len, h.ok]
  by_cases h7 : (c.at_ i).k = 7
  · rw [if_pos h7, if_pos h7]
    have hlt := lt_of_kind (c := c) (i := i) (by omega)
    rcases (atom_sim h (i + 1) (by omega)).cases with ⟨a, b, e1, e2, he⟩ | ⟨x, y, j, e1, e2, rfl⟩
    · rw [e1, e2]; exact he
    · rw [e1, e2]; exact ⟨rfl, rfl⟩
  · rw [if_neg h7, if_neg h7]
    by_cases h1 : (c.at_ i).k = 1
    · rw [if_pos h1, if_pos h1]
      by_cases hu : (i + 1 < c.T.length ∧ (c.at_ (i + 1)).k = 14) ∨ (i + 1 = c.T.length ∧ c.o.k = 14)
      · rw [if_pos hu, if_pos (by omega)]; exact unlike_sim h i hi
      · rw [if_neg hu, if_neg (by omega)]
        rcases (atom_sim h i hi).cases with ⟨a, b, e1, e2, he⟩ | ⟨x, y, j, e1, e2, rfl⟩
        · rw [e1, e2]; exact he
        · rw [e1, e2]; exact ⟨rfl, rfl⟩
    · rw [if_neg h1, if_neg h1]
      by_cases h2 : (c.at_ i).k = 2 ∨ (c.at_ i).k = 3 ∨ (c.at_ i).k = 4
      · rw [if_pos h2, if_pos h2]; exact unlike_sim h i hi
      · rw [if_neg h2, if_neg h2]; exact stop_sim h i hi _
theorem bodyL_sim (h : Sim E n c d) : ∀ (m i : Nat) (acc : List S63), i ≤ c.T.length → m ≠ 0 → Rel E n Eq (bodyL c m i acc) (bodyL d m (i + n) acc)
  | 0, i, acc, _, h0 => absurd rfl h0
  | m + 1, i, acc, hi, h0 => by
    unfold bodyL
    rcases (literal_sim h i hi).cases with ⟨a, b, e1, e2, he⟩ | ⟨x, y, j, e1, e2, rfl⟩
    · rw [e1, e2]; exact he
    · have hj := (literalP_le e1).2
      rw [e1, e2]
      simp only
      rw [h.kind]
      by_cases hgo : (c.at_ j).k = 10 ∧ m ≠ 0
      · rw [if_pos hgo, if_pos hgo]
        have hlt := lt_of_kind (c := c) (i := j) (by omega)
        rw [show j + n + 1 = j + 1 + n by omega]
        exact bodyL_sim h m (j + 1) _ (by omega) hgo.2
      · rw [if_neg hgo, if_neg hgo]; exact ⟨rfl, rfl⟩
theorem rule_sim (h : Sim E n c d) (i : Nat) (hi : i ≤ c.T.length) (p : ByteArray) : Rel E n Eq (ruleP c i p) (ruleP d (i + n) p) := by
  unfold ruleP
  rcases (args_sim h i hi).cases with ⟨a, b, e1, e2, he⟩ | ⟨x, y, j, e1, e2, rfl⟩
  · rw [e1, e2]; exact he
  · have hj := (argsP_le hi e1).2
    rw [e1, e2]
    simp only
    rw [h.kind]
    by_cases h13 : (c.at_ j).k = 13
    · rw [if_pos h13, if_pos h13]
      have hlt := lt_of_kind (c := c) (i := j) (by omega)
      rw [show j + n + 1 = j + 1 + n by omega]
      rcases (bodyL_sim h 256 (j + 1) [] (by omega) (by decide)).cases with ⟨a, b, e3, e4, he⟩ | ⟨x2, y2, k, e3, e4, rfl⟩
      · rw [e3, e4]; exact he
      · rw [e3, e4]
        simp only
        rcases (take_sim h k (bodyL_le _ _ _ _ _ e3).2 [11] rfl).cases with ⟨a, b, e5, e6, he⟩ | ⟨t, u, m, e5, e6, ht⟩
        · rw [e5, e6]; exact he
        · rw [e5, e6]; exact ⟨rfl, rfl⟩
    · rw [if_neg h13, if_neg h13]
      by_cases h11 : (c.at_ j).k = 11
      · rw [if_pos h11, if_pos h11]; exact ⟨rfl, by show j + n + 1 = j + 1 + n; omega⟩
      · rw [if_neg h11, if_neg h11]; exact stop_sim h j hj _
theorem digits_sim {at_ bt_ L : Nat} (h : ∀ m, m ≤ L → E (at_ + m) (bt_ + m)) : ∀ (l : List UInt8) (i m : Nat), i + l.length ≤ L →
    (∃ a b, digitsQ at_ l i m = .error a ∧ digitsQ bt_ l i m = .error b ∧ E a b) ∨ ∃ x, digitsQ at_ l i m = .ok x ∧ digitsQ bt_ l i m = .ok x
  | [], i, m, _ => .inr ⟨m, rfl, rfl⟩
  | e :: r, i, m, hL => by
    rw [List.length_cons] at hL
    unfold digitsQ
    by_cases hb : 16 < 10 * m + digV e ∨ (0 < i ∧ m = 0)
    · rw [if_pos hb, if_pos hb]; exact .inl ⟨_, _, rfl, rfl, h i (by omega)⟩
    · rw [if_neg hb, if_neg hb]; exact digits_sim h r _ _ (by omega)
theorem arity_sim (h : Sim E n c d) (i : Nat) (hi : i ≤ c.T.length) : Rel E n Eq (arityQ c i) (arityQ d (i + n)) := by
  unfold arityQ
  rcases (take_sim h i hi [1] rfl).cases with ⟨a, b, e1, e2, he⟩ | ⟨t, u, j, e1, e2, ht⟩
  · rw [e1, e2]; exact he
  · rw [e1, e2]
    simp only
    rcases (take_sim h j (takeP_lt rfl e1).2.1 [12] rfl).cases with ⟨a, b, e3, e4, he⟩ | ⟨t2, u2, k, e3, e4, ht2⟩
    · rw [e3, e4]; exact he
    · rw [e3, e4]
      simp only
      rcases (take_sim h k (takeP_lt rfl e3).2.1 [3] rfl).cases with ⟨a, b, e5, e6, he⟩ | ⟨t3, u3, m, e5, e6, ht3⟩
      · rw [e5, e6]; exact he
      · rw [e5, e6]
        simp only
        rw [ht3.tt]
        rcases digits_sim (L := t3.t.size) (fun m hm => ht3.aa m hm) t3.t.data.toList 0 0 (by rw [Nat.zero_add]; exact Nat.le_refl _) with ⟨a, b, e7, e8, he⟩ | ⟨x, e7, e8⟩
        · rw [e7, e8]; exact he
        · rw [e7, e8]; exact ⟨by simp only [ht.tt], rfl⟩
theorem statement_sim (h : Sim E n c d) (i : Nat) (hi : i ≤ c.T.length) : Rel E n (StmR E) (statementP c i) (statementP d (i + n)) := by
  unfold statementP
  rcases (take_sim h i hi [1, 5, 6] rfl).cases with ⟨a, b, e1, e2, he⟩ | ⟨t, u, j, e1, e2, ht⟩
  · rw [e1, e2]; exact he
  · have hj := (takeP_lt rfl e1).2.1
    have hta := ht.aa 0 (Nat.zero_le _)
    simp only [Nat.add_zero] at hta
    rw [e1, e2]
    simp only
    rw [ht.kk, ht.tt]
    by_cases h5 : t.k = 5
    · rw [if_pos h5, if_pos h5]
      rcases (arity_sim h j hj).cases with ⟨a, b, e3, e4, he⟩ | ⟨x, y, k, e3, e4, rfl⟩
      · rw [e3, e4]; exact he
      · rw [e3, e4]
        simp only
        rcases (take_sim h k (arityQ_le e3).2 [4] rfl).cases with ⟨a, b, e5, e6, he⟩ | ⟨t2, u2, m, e5, e6, ht2⟩
        · rw [e5, e6]; exact he
        · rw [e5, e6]
          simp only
          rcases (take_sim h m (takeP_lt rfl e5).2.1 [11] rfl).cases with ⟨a, b, e7, e8, he⟩ | ⟨t3, u3, m3, e7, e8, ht3⟩
          · rw [e7, e8]; exact he
          · rw [e7, e8]; exact ⟨⟨by rw [ht2.tt], hta⟩, rfl⟩
    · rw [if_neg h5, if_neg h5]
      by_cases h6 : t.k = 6
      · rw [if_pos h6, if_pos h6]
        rcases (arity_sim h j hj).cases with ⟨a, b, e3, e4, he⟩ | ⟨x, y, k, e3, e4, rfl⟩
        · rw [e3, e4]; exact he
        · rw [e3, e4]
          simp only
          rcases (take_sim h k (arityQ_le e3).2 [11] rfl).cases with ⟨a, b, e5, e6, he⟩ | ⟨t2, u2, m, e5, e6, ht2⟩
          · rw [e5, e6]; exact he
          · rw [e5, e6]; exact ⟨⟨rfl, hta⟩, rfl⟩
      · rw [if_neg h6, if_neg h6]
        rcases (rule_sim h j hj t.t).cases with ⟨a, b, e3, e4, he⟩ | ⟨x, y, k, e3, e4, rfl⟩
        · rw [e3, e4]; exact he
        · rw [e3, e4]; exact ⟨⟨rfl, hta⟩, rfl⟩

/-- Lists alike, element by element, behind others. -/
def ListR {α β : Type} (R : α → β → Prop) : List α → List β → Prop
  | [], [] => True
  | x :: l, y :: m => R x y ∧ ListR R l m
  | _, _ => False
theorem ListR.snoc {α β : Type} {R : α → β → Prop} : ∀ {l : List α} {m : List β} {x : α} {y : β}, ListR R l m → R x y → ListR R (l ++ [x]) (m ++ [y])
  | [], [], x, y, _, h => ⟨h, trivial⟩
  | a :: l, b :: m, x, y, h, h2 => ⟨h.1, ListR.snoc h.2 h2⟩
  | [], _ :: _, _, _, h, _ => h.elim
  | _ :: _, [], _, _, h, _ => h.elim
theorem programL_sim (h : Sim E n c d) (pre : List Stm) : ∀ (m i : Nat) (acc acc2 : List Stm), i ≤ c.T.length → c.T.length < m + i → ListR (StmR E) acc acc2 →
    Rel E n (fun l l2 => ∃ r, l2 = pre ++ r ∧ ListR (StmR E) l r) (programL c m i acc) (programL d m (i + n) (pre ++ acc2))
  | 0, i, acc, acc2, hi, hm, _ => by omega
  | m + 1, i, acc, acc2, hi, hm, ha => by
    unfold programL
    rw [h.len]
    by_cases hlt : i < c.T.length
    · rw [if_pos hlt, if_pos (by omega)]
      rcases (statement_sim h i hi).cases with ⟨a, b, e1, e2, he⟩ | ⟨x, y, j, e1, e2, hr⟩
      · rw [e1, e2]; exact he
      · rw [e1, e2]
        simp only
        have hj := statementP_le e1
        rw [List.append_assoc]
        exact programL_sim h pre m j _ _ hj.2 (by omega) (ha.snoc hr)
    · rw [if_neg hlt, if_neg (by omega)]
      exact ⟨⟨acc2, rfl, ha⟩, rfl⟩
/-- More rounds than tokens change nothing. -/
theorem programL_fuel : ∀ (m i k : Nat) (acc : List Stm), i ≤ c.T.length → c.T.length < m + i → programL c (m + k) i acc = programL c m i acc
  | 0, i, k, acc, hi, hm => by omega
  | m + 1, i, k, acc, hi, hm => by
    rw [show m + 1 + k = (m + k) + 1 by omega]
    unfold programL
    by_cases hlt : i < c.T.length
    · rw [if_pos hlt, if_pos hlt]
      cases hs : statementP c i with
      | error a => rfl
      | ok r =>
        obtain ⟨x, j⟩ := r
        have hj := statementP_le hs
        exact programL_fuel m j k _ hj.2 (by omega)
    · rw [if_neg hlt, if_neg hlt]
end
end Go.Proofs.Ytdodajpiidkglaa.K

namespace Go.Proofs.Ytdodajpiidkglaa.K
open Go.RowKit Go.Proofs.YtdodajpiidkglaaW.PrintWords Go.Proofs.Ytdodajpiidkglaa.PAll
set_option linter.unusedVariables false

/-! #### one token -/
theorem wrun_nl (num : Bool) : ∀ (m : Nat) (l r : List UInt8), wrun num m (l ++ 10 :: r) = wrun num m l
  | 0, _, _ => by simp [wrun]
  | m + 1, [], r => by
    show wrun num (m + 1) (10 :: r) = []
    unfold wrun
    rw [if_neg (by simp [wordB, lowB, uppB, digB])]
  | m + 1, c :: l, r => by
    show wrun num (m + 1) (c :: (l ++ 10 :: r)) = wrun num (m + 1) (c :: l)
    unfold wrun
    rw [wrun_nl num m l r]

theorem qd_more : ∀ (l r : List UInt8) (st h i : Nat) (acc x : List UInt8) (e : Nat), qd st h l i acc = (x, e, true) → qd st h (l ++ r) i acc = (x, e, true)
  | [], r, st, h, i, acc, x, e, hq => by
    rcases st with _ | _ | _ | st <;> simp [qd] at hq
  | c :: l, r, st, h, i, acc, x, e, hq => by
    rw [List.cons_append]
    rcases st with _ | _ | _ | st
    · unfold qd at hq ⊢
      split
      · rename_i h1; rw [if_pos h1] at hq; exact hq
      · rename_i h1
        rw [if_neg h1] at hq
        split
        · rename_i h2; rw [if_pos h2] at hq; exact hq
        · rename_i h2
          rw [if_neg h2] at hq
          split
          · rename_i h3; rw [if_pos h3] at hq; exact qd_more l r _ _ _ _ _ _ hq
          · rename_i h3; rw [if_neg h3] at hq; exact qd_more l r _ _ _ _ _ _ hq
    · unfold qd at hq ⊢
      split
      · rename_i h1; rw [if_pos h1] at hq; exact qd_more l r _ _ _ _ _ _ hq
      · rename_i h1
        rw [if_neg h1] at hq
        split
        · rename_i h2; rw [if_pos h2] at hq; exact qd_more l r _ _ _ _ _ _ hq
        · rename_i h2
          rw [if_neg h2] at hq
          split
          · rename_i h3; rw [if_pos h3] at hq; exact qd_more l r _ _ _ _ _ _ hq
          · rename_i h3
            rw [if_neg h3] at hq
            split
            · rename_i h4; rw [if_pos h4] at hq; exact qd_more l r _ _ _ _ _ _ hq
            · rename_i h4; rw [if_neg h4] at hq; simp at hq
    · unfold qd at hq ⊢
      cases hx : hexv c with
      | none => rw [hx] at hq; simp at hq
      | some d => rw [hx] at hq; exact qd_more l r _ _ _ _ _ _ hq
    · unfold qd at hq ⊢
      cases hx : hexv c with
      | none => rw [hx] at hq; simp at hq
      | some d => rw [hx] at hq; exact qd_more l r _ _ _ _ _ _ hq

/-- A string never goes beyond a byte 10: what stands behind it is all one. -/
theorem qd_nl : ∀ (l r r2 : List UInt8) (st h i : Nat) (acc : List UInt8), qd st h (l ++ 10 :: r) i acc = qd st h (l ++ 10 :: r2) i acc
  | [], r, r2, st, h, i, acc => by
    show qd st h (10 :: r) i acc = qd st h (10 :: r2) i acc
    rcases st with _ | _ | _ | st <;> simp [qd, hexv]
  | c :: l, r, r2, st, h, i, acc => by
    rw [List.cons_append, List.cons_append]
    rcases st with _ | _ | _ | st
    · simp only [qd, qd_nl l r r2]
    · simp only [qd, qd_nl l r r2]
    · simp only [qd, qd_nl l r r2]
    · simp only [qd, qd_nl l r r2]

theorem nextF_nl (l r r2 : List UInt8) (i : Nat) : nextF (l ++ 10 :: r) i = nextF (l ++ 10 :: r2) i := by
  cases l with
  | nil => simp [nextF, sg1, wrun, wordB, lowB, uppB, digB, kindF]
  | cons c l =>
    rw [List.cons_append, List.cons_append]
    have hh : (l ++ 10 :: r).head? = (l ++ 10 :: r2).head? := by cases l <;> rfl
    have hw : wrun (digB c.toNat) 64 (c :: (l ++ 10 :: r)) = wrun (digB c.toNat) 64 (c :: (l ++ 10 :: r2)) := (wrun_nl _ 64 (c :: l) r).trans (wrun_nl _ 64 (c :: l) r2).symm
    simp only [nextF, qd_nl l r r2, hh, hw]

theorem nextF_more (l r : List UInt8) (i : Nat) (t : Tok) (h : nextF l i = (t, true)) : nextF (l ++ 10 :: r) i = (t, true) := by
  cases l with
  | nil => simp [nextF] at h
  | cons c l =>
    have hw := wrun_nl (digB c.toNat) 64 (c :: l) r
    rw [List.cons_append] at hw ⊢
    unfold nextF at h ⊢
    dsimp only at h ⊢
    rw [hw]
    split
    · rename_i h34
      rw [if_pos h34] at h
      injection h with h1 h2
      have hq := qd_more l (10 :: r) 0 0 (i + 1) [] (qd 0 0 l (i + 1) []).1 (qd 0 0 l (i + 1) []).2.1 (by rw [← h2])
      rw [hq, ← h1]
    · rename_i h34
      rw [if_neg h34] at h
      split
      · rename_i hs; rw [if_pos hs] at h; exact h
      · rename_i hs
        rw [if_neg hs] at h
        split
        · rename_i h58
          rw [if_pos h58] at h
          cases l with
          | nil => simp at h
          | cons d l => exact h
        · rename_i h58
          rw [if_neg h58] at h
          split
          · rename_i h33
            rw [if_pos h33] at h
            cases l with
            | nil => simp at h
            | cons d l => exact h
          · rename_i h33; rw [if_neg h33] at h; exact h

/-! #### blanks -/
theorem blk_nl : ∀ (l r : List UInt8) (b : Bool) (i : Nat), blk b (l ++ 10 :: r) i = if blk b l i < i + l.length then blk b l i else blk false r (i + l.length + 1)
  | [], r, b, i => by
    cases b <;> simp [blk]
  | c :: l, r, true, i => by
    simp only [List.cons_append, blk, List.length_cons]
    split
    · rw [blk_nl l r false (i + 1), show i + (l.length + 1) = i + 1 + l.length by omega]
    · rw [blk_nl l r true (i + 1), show i + (l.length + 1) = i + 1 + l.length by omega]
  | c :: l, r, false, i => by
    simp only [List.cons_append, blk, List.length_cons]
    split
    · rw [blk_nl l r true (i + 1), show i + (l.length + 1) = i + 1 + l.length by omega]
    · split
      · rw [blk_nl l r false (i + 1), show i + (l.length + 1) = i + 1 + l.length by omega]
      · rw [if_pos (by omega)]

/-! #### a text further on -/
theorem blk_shift (D : Nat) : ∀ (l : List UInt8) (b : Bool) (i : Nat), blk b l (i + D) = blk b l i + D
  | [], b, i => by cases b <;> rfl
  | c :: l, true, i => by
    simp only [blk, show i + D + 1 = i + 1 + D by omega, blk_shift D l]
    split <;> rfl
  | c :: l, false, i => by
    simp only [blk, show i + D + 1 = i + 1 + D by omega, blk_shift D l]
    split
    · rfl
    · split <;> rfl
theorem qd_shift (D : Nat) : ∀ (l : List UInt8) (st h i : Nat) (acc : List UInt8), qd st h l (i + D) acc = ((qd st h l i acc).1, (qd st h l i acc).2.1 + D, (qd st h l i acc).2.2)
  | [], st, h, i, acc => by rcases st with _ | _ | _ | st <;> simp [qd]
  | c :: l, st, h, i, acc => by
    rcases st with _ | _ | _ | st
    · simp only [qd, show i + D + 1 = i + 1 + D by omega, qd_shift D l]
      split
      · rfl
      · split
        · rfl
        · split <;> rfl
    · simp only [qd, show i + D + 1 = i + 1 + D by omega, qd_shift D l]
      split
      · rfl
      · split
        · rfl
        · split
          · rfl
          · split <;> rfl
    · simp only [qd, show i + D + 1 = i + 1 + D by omega, qd_shift D l]
      cases hexv c <;> rfl
    · simp only [qd, show i + D + 1 = i + 1 + D by omega, qd_shift D l]
      cases hexv c <;> rfl

def shT (D : Nat) (t : Tok) : Tok := if t.k = 0 then t else ⟨t.k, t.t, t.a + D, t.e + D⟩
theorem shT_k (D : Nat) (t : Tok) : (shT D t).k = t.k := by unfold shT; split <;> rfl
theorem shT_t (D : Nat) (t : Tok) : (shT D t).t = t.t := by unfold shT; split <;> rfl
theorem shT_e (D : Nat) (t : Tok) (h : t.k ≠ 0) : (shT D t).e = t.e + D := by unfold shT; rw [if_neg h]
theorem shT_a (D : Nat) (t : Tok) (h : t.k ≠ 0) : (shT D t).a = t.a + D := by unfold shT; rw [if_neg h]
theorem shT_zero (D : Nat) : shT D Tok.zero = Tok.zero := rfl

theorem nextF_shift (D : Nat) (l : List UInt8) (i : Nat) : nextF l (i + D) = (shT D (nextF l i).1, (nextF l i).2) := by
  cases l with
  | nil => rfl
  | cons c l =>
    simp only [nextF, show i + D + 1 = i + 1 + D by omega, qd_shift D l]
    split
    · rfl
    · split
      · rename_i h; simp only [shT, if_neg h]
      · split
        · split <;> simp [shT] <;> omega
        · split
          · split <;> simp [shT] <;> omega
          · split
            · rfl
            · rename_i h; simp only [shT, if_neg h]; congr 2; omega
theorem nextF_k {l : List UInt8} {i : Nat} {t : Tok} (h : nextF l i = (t, true)) : t.k ≠ 0 := by
  have := (nextF_end l i).2.1
  rw [h] at this
  exact (this rfl).2.2

/-! #### all tokens -/
theorem tokF_acc (s : ByteArray) : ∀ (n i : Nat) (j : Option Nat) (a b : List Tok), tokF s n i j (a ++ b) = (a ++ (tokF s n i j b).1, (tokF s n i j b).2)
  | 0, i, j, a, b => rfl
  | n + 1, i, j, a, b => by
    unfold tokF
    split
    · split
      · rfl
      · split
        · rfl
        · rw [List.append_assoc]; exact tokF_acc s n _ _ a _
    · rfl
theorem tokF_fuel (s : ByteArray) : ∀ (n i m : Nat) (j : Option Nat) (acc : List Tok), i ≤ s.size → s.size < n + i → tokF s (n + m) i j acc = tokF s n i j acc
  | 0, i, m, j, acc, hi, hn => by omega
  | n + 1, i, m, j, acc, hi, hn => by
    rw [show n + 1 + m = (n + m) + 1 by omega]
    unfold tokF
    split
    · rename_i hlt
      split
      · rfl
      · split
        · rfl
        · rename_i h1 h2
          have hend := nextF_end (from_ s i) i
          rw [from_len] at hend
          have ht : (nextF (from_ s i) i).2 = true := by cases h : (nextF (from_ s i) i).2 <;> simp_all
          have hb := blk_le (from_ s (nextF (from_ s i) i).1.e) false (nextF (from_ s i) i).1.e
          rw [from_len] at hb
          have := (hend.2.1 ht).1
          exact tokF_fuel s n _ m _ _ (by omega) (by omega)
    · rfl
theorem tokF_none (s : ByteArray) (n i : Nat) (j : Option Nat) (acc : List Tok) (h : j ≠ some i) : tokF s n i j acc = tokF s n i none acc := by
  cases n with
  | zero => rfl
  | succ n =>
    unfold tokF
    split
    · rw [if_neg (fun (e : _ ∧ _) => h e.2), if_neg (c := isWord (nextF (from_ s i) i).1.k = true ∧ none = some i) (fun e => by have := e.2; cases this)]
    · rfl

/-- J is s, a byte 10, t. -/
def Joint (J s t : ByteArray) : Prop := J.data.toList = s.data.toList ++ 10 :: t.data.toList
section
variable {J s t : ByteArray}
theorem size_list (s : ByteArray) : s.data.toList.length = s.size := rfl
theorem Joint.size (h : Joint J s t) : J.size = t.size + (s.size + 1) := by
  rw [← size_list, h, List.length_append, List.length_cons, size_list, size_list]; omega
theorem Joint.old (h : Joint J s t) {i : Nat} (hi : i ≤ s.size) : from_ J i = from_ s i ++ 10 :: t.data.toList := by
  unfold from_
  rw [h, List.drop_append_of_le_length (by rw [size_list]; exact hi)]
theorem Joint.new (h : Joint J s t) (i : Nat) : from_ J (i + (s.size + 1)) = from_ t i := by
  unfold from_
  rw [h, List.drop_append, size_list]
  rw [List.drop_eq_nil_of_le (by rw [size_list]; omega), List.nil_append, show i + (s.size + 1) - s.size = i + 1 by omega]
  rfl

theorem tok_new (h : Joint J s t) : ∀ (n i : Nat) (j : Option Nat) (acc : List Tok),
    tokF J n (i + (s.size + 1)) (j.map (· + (s.size + 1))) (acc.map (shT (s.size + 1))) = ((tokF t n i j acc).1.map (shT (s.size + 1)), shT (s.size + 1) (tokF t n i j acc).2.1, (tokF t n i j acc).2.2.1 + (s.size + 1), (tokF t n i j acc).2.2.2)
  | 0, i, j, acc => rfl
  | n + 1, i, j, acc => by
    unfold tokF
    rw [h.new, nextF_shift, h.size]
    simp only [shT_k]
    by_cases hlt : i < t.size
    · rw [if_pos (by omega), if_pos hlt]
      have hj : (j.map (· + (s.size + 1)) = some (i + (s.size + 1))) ↔ j = some i := by
        cases j with
        | none => simp
        | some j => simp
      by_cases hw : isWord (nextF (from_ t i) i).1.k = true ∧ j = some i
      · rw [if_pos ⟨hw.1, hj.2 hw.2⟩, if_pos hw]; rfl
      · rw [if_neg (fun e => hw ⟨e.1, hj.1 e.2⟩), if_neg hw]
        by_cases hf : (nextF (from_ t i) i).2 = false
        · rw [if_pos hf, if_pos hf]
          by_cases h0 : (nextF (from_ t i) i).1.k = 0
          · rw [if_pos h0, if_pos h0]
          · rw [if_neg h0, if_neg h0, shT_e _ _ h0]
        · rw [if_neg hf, if_neg hf]
          have ht : (nextF (from_ t i) i).2 = true := by cases h2 : (nextF (from_ t i) i).2 <;> simp_all
          have h0 := ((nextF_end (from_ t i) i).2.1 ht).2.2
          rw [shT_e _ _ h0, h.new, blk_shift]
          rw [← tok_new h n (blk false (from_ t (nextF (from_ t i) i).1.e) (nextF (from_ t i) i).1.e) (if isWord (nextF (from_ t i) i).1.k = true then some (nextF (from_ t i) i).1.e else none) (acc ++ [(nextF (from_ t i) i).1])]
          congr 1
          · split <;> rfl
          · simp
    · rw [if_neg (by omega), if_neg hlt]
      simp only [shT_zero]

/-- Where J goes on where s is at a place (behind blanks). -/
def goesOn (s t : ByteArray) (i : Nat) : Nat := if i < s.size then i else blk false (from_ t 0) 0 + (s.size + 1)
theorem Joint.goes (h : Joint J s t) {e : Nat} (he : e ≤ s.size) : blk false (from_ J e) e = goesOn s t (blk false (from_ s e) e) := by
  rw [h.old he, blk_nl, from_len, show e + (s.size - e) = s.size by omega]
  unfold goesOn
  split
  · rfl
  · have := blk_shift (s.size + 1) (from_ t 0) false 0
    rw [Nat.zero_add] at this
    rw [← this]; rfl

theorem tok_old (h : Joint J s t) : ∀ (n i : Nat) (j : Option Nat) (acc T1 : List Tok) (o : Tok) (f : Nat), i ≤ s.size → s.size < n + i → (∀ e, j = some e → e ≤ s.size) → tokF s n i j acc = (T1, o, f, 0) →
    ∀ N, J.size < N + i → tokF J N (goesOn s t i) j acc = (T1 ++ (toks t).1.map (shT (s.size + 1)), shT (s.size + 1) (toks t).2.1, (toks t).2.2.1 + (s.size + 1), (toks t).2.2.2)
  | 0, i, j, acc, T1, o, f, hi, hn, hj, ht, N, hN => by omega
  | n + 1, i, j, acc, T1, o, f, hi, hn, hj, ht, N, hN => by
    have hsz := h.size
    unfold tokF at ht
    by_cases hlt : i < s.size
    · rw [if_pos hlt] at ht
      unfold goesOn
      rw [if_pos hlt]
      by_cases hw : isWord (nextF (from_ s i) i).1.k = true ∧ j = some i
      · rw [if_pos hw] at ht; simp at ht
      · rw [if_neg hw] at ht
        by_cases hf : (nextF (from_ s i) i).2 = false
        · rw [if_pos hf] at ht; simp at ht
        · rw [if_neg hf] at ht
          have htr : (nextF (from_ s i) i).2 = true := by cases h2 : (nextF (from_ s i) i).2 <;> simp_all
          have hend := nextF_end (from_ s i) i
          rw [from_len] at hend
          obtain ⟨he1, ha1, hk1⟩ := hend.2.1 htr
          have hX : nextF (from_ J i) i = ((nextF (from_ s i) i).1, true) := by
            rw [h.old hi]
            exact nextF_more _ _ _ _ (by rw [← htr])
          obtain ⟨N, rfl⟩ : ∃ m, N = m + 1 := ⟨N - 1, by omega⟩
          unfold tokF
          rw [hX]
          simp only
          rw [if_pos (by omega), if_neg hw, if_neg (by simp), h.goes (by omega)]
          have hb := blk_le (from_ s (nextF (from_ s i) i).1.e) false (nextF (from_ s i) i).1.e
          rw [from_len] at hb
          refine tok_old h n _ _ _ T1 o f (by omega) (by omega) ?_ ht N (by omega)
          intro e he
          split at he
          · injection he with he; omega
          · cases he
    · rw [if_neg hlt] at ht
      injection ht with ht _
      subst ht
      unfold goesOn
      rw [if_neg hlt]
      have hb := blk_le (from_ t 0) false 0
      rw [from_len] at hb
      rw [tokF_none J N _ j acc (fun e => by have := hj _ e; omega)]
      have hnew := tok_new h N (blk false (from_ t 0) 0) none []
      have hacc := tokF_acc J N (blk false (from_ t 0) 0 + (s.size + 1)) none acc []
      rw [List.append_nil] at hacc
      have hfu : tokF t N (blk false (from_ t 0) 0) none [] = toks t := by
        unfold toks
        rcases Nat.lt_or_ge N (t.size + 1) with hlt2 | hge
        · have h1 := tokF_fuel t N (blk false (from_ t 0) 0) (t.size + 1 - N) none [] (by omega) (by omega)
          rw [← h1]; congr 1; omega
        · have h1 := tokF_fuel t (t.size + 1) (blk false (from_ t 0) 0) (N - (t.size + 1)) none [] (by omega) (by omega)
          rw [← h1]; congr 1; omega
      rw [hfu] at hnew
      rw [hacc]
      simp only [List.map_nil, Option.map_none] at hnew
      rw [hnew]

/-- The tokens of a text that goes to its end, a byte 10, another text. -/
theorem toks_join (h : Joint J s t) {T1 : List Tok} {o : Tok} {f : Nat} (hs : toks s = (T1, o, f, 0)) :
    toks J = (T1 ++ (toks t).1.map (shT (s.size + 1)), shT (s.size + 1) (toks t).2.1, (toks t).2.2.1 + (s.size + 1), (toks t).2.2.2) := by
  unfold toks at hs
  have hb := blk_le (from_ s 0) false 0
  rw [from_len] at hb
  have := tok_old h (s.size + 1) (blk false (from_ s 0) 0) none [] T1 o f (by omega) (by omega) (fun e he => by cases he) hs
  have hsz := h.size
  show tokF J (J.size + 1) (blk false (from_ J 0) 0) none [] = _
  rw [h.goes (Nat.zero_le _)]
  exact this (J.size + 1) (by omega)
end

/-- What 'all went well' says of the tokens. -/
theorem tokF_ends (s : ByteArray) : ∀ (n i : Nat) (j : Option Nat) (acc : List Tok), i ≤ s.size → s.size < n + i →
    ((tokF s n i j acc).2.2.1 = s.size ∧ (tokF s n i j acc).2.1.k = 0 ↔ (tokF s n i j acc).2.2.2 = 0) ∧ (tokF s n i j acc).2.2.1 ≤ s.size ∧ ((∀ x ∈ acc, x.k ≠ 0) → ∀ x ∈ (tokF s n i j acc).1, x.k ≠ 0)
  | 0, i, j, acc, hi, hn => by omega
  | n + 1, i, j, acc, hi, hn => by
    unfold tokF
    split
    · rename_i hlt
      have hend := nextF_end (from_ s i) i
      rw [from_len] at hend
      split
      · refine ⟨⟨fun h => ?_, fun h => ?_⟩, by simp only; omega, fun h => h⟩
        · simp only at h; omega
        · simp at h
      · split
        · rename_i h1 h2
          simp only
          split
          · rename_i h0
            exact ⟨⟨fun h => by omega, fun h => by simp at h⟩, by omega, fun h => h⟩
          · rename_i h0
            exact ⟨⟨fun h => absurd h.2 h0, fun h => by simp at h⟩, by omega, fun h => h⟩
        · rename_i h1 h2
          have ht : (nextF (from_ s i) i).2 = true := by cases h3 : (nextF (from_ s i) i).2 <;> simp_all
          have hb := blk_le (from_ s (nextF (from_ s i) i).1.e) false (nextF (from_ s i) i).1.e
          rw [from_len] at hb
          have h5 := hend.2.1 ht
          obtain ⟨h6, h7, h8⟩ := tokF_ends s n (blk false (from_ s (nextF (from_ s i) i).1.e) (nextF (from_ s i) i).1.e) (if isWord (nextF (from_ s i) i).1.k then some (nextF (from_ s i) i).1.e else none) (acc ++ [(nextF (from_ s i) i).1]) (by omega) (by omega)
          refine ⟨h6, h7, fun h => h8 fun x hx => ?_⟩
          rcases List.mem_append.1 hx with hx | hx
          · exact h x hx
          · rw [List.mem_singleton] at hx; rw [hx]; exact h5.2.2
    · exact ⟨⟨fun _ => rfl, fun _ => ⟨rfl, rfl⟩⟩, Nat.le_refl _, fun h => h⟩
theorem toks_ends (s : ByteArray) : ((toks s).2.2.1 = s.size ∧ (toks s).2.1.k = 0 ↔ (toks s).2.2.2 = 0) ∧ (toks s).2.2.1 ≤ s.size ∧ ∀ x ∈ (toks s).1, x.k ≠ 0 := by
  have hb := blk_le (from_ s 0) false 0
  rw [from_len] at hb
  obtain ⟨h1, h2, h3⟩ := tokF_ends s (s.size + 1) (blk false (from_ s 0) 0) none [] (by omega) (by omega)
  exact ⟨h1, h2, h3 (by simp)⟩
end Go.Proofs.Ytdodajpiidkglaa.K

namespace Go.Proofs.Ytdodajpiidkglaa.K
open Go.RowKit Go.Proofs.YtdodajpiidkglaaW.PrintWords Go.Proofs.Ytdodajpiidkglaa.PAll
set_option linter.unusedVariables false

/-! #### a list of tokens that goes on: what was read ahead of its end stays -/
structure Pre (c d : Src) : Prop where
  len : c.T.length ≤ d.T.length
  tok : ∀ i, i < c.T.length → d.at_ i = c.at_ i
  o : c.o.k = 0

section
variable {c d : Src}
theorem take_pre (h : Pre c d) {i : Nat} {wl : List Nat} {t : Tok} {j : Nat} (hz : wl.contains 0 = false) (hr : takeP c i wl = .ok (t, j)) : takeP d i wl = .ok (t, j) := by
  obtain ⟨h1, h2, h3, h4⟩ := takeP_lt hz hr
  unfold takeP
  rw [h.tok i (by omega), ← h3, if_pos h4, h1]
theorem term_pre (h : Pre c d) {i : Nat} {x : S61} {j : Nat} (hr : termP c i = .ok (x, j)) : termP d i = .ok (x, j) := by
  unfold termP at hr ⊢
  cases ht : takeP c i [2, 1, 3, 4] with
  | error a => rw [ht] at hr; cases hr
  | ok r =>
    obtain ⟨t, k⟩ := r
    rw [ht] at hr
    rw [take_pre h rfl ht]; exact hr
theorem argsL_pre (h : Pre c d) : ∀ (m i : Nat) (acc l : List S61) (j : Nat), argsL c m i acc = .ok (l, j) → argsL d m i acc = .ok (l, j)
  | 0, i, acc, l, j, hr => by simp [argsL] at hr
  | m + 1, i, acc, l, j, hr => by
    unfold argsL at hr ⊢
    cases ht : termP c i with
    | error a => rw [ht] at hr; cases hr
    | ok r =>
      obtain ⟨x, k⟩ := r
      rw [ht] at hr
      rw [term_pre h ht]
      simp only at hr ⊢
      have hk : k < c.T.length := by
        split at hr
        · exact lt_of_kind (by omega)
        · cases hq : takeP c k (if m = 0 then [9] else [9, 10]) with
          | error a => rw [hq] at hr; cases hr
          | ok r =>
            obtain ⟨t, k2⟩ := r
            have := takeP_lt (by split <;> rfl) hq
            omega
      rw [h.tok k hk]
      split
      · rename_i hgo
        rw [if_pos hgo] at hr
        exact argsL_pre h m _ _ _ _ hr
      · rename_i hgo
        rw [if_neg hgo] at hr
        cases hq : takeP c k (if m = 0 then [9] else [9, 10]) with
        | error a => rw [hq] at hr; cases hr
        | ok r =>
          obtain ⟨t, k2⟩ := r
          rw [hq] at hr
          rw [take_pre h (by split <;> rfl) hq]; exact hr
theorem args_pre (h : Pre c d) {i : Nat} {l : List S61} {j : Nat} (hi : i < c.T.length) (hr : argsP c i = .ok (l, j)) : argsP d i = .ok (l, j) := by
  unfold argsP at hr ⊢
  rw [h.tok i hi]
  split
  · rename_i h8; rw [if_pos h8] at hr; exact argsL_pre h _ _ _ _ _ hr
  · rename_i h8; rw [if_neg h8] at hr; exact hr
theorem atom_pre (h : Pre c d) {i : Nat} {x : S26} {j : Nat} (hj : j < c.T.length) (hr : atomP c i = .ok (x, j)) : atomP d i = .ok (x, j) := by
  unfold atomP at hr ⊢
  cases ht : takeP c i [1] with
  | error a => rw [ht] at hr; cases hr
  | ok r =>
    obtain ⟨t, k⟩ := r
    rw [ht] at hr
    rw [take_pre h rfl ht]
    simp only at hr ⊢
    cases ha : argsP c k with
    | error a => rw [ha] at hr; cases hr
    | ok r =>
      obtain ⟨l, k2⟩ := r
      rw [ha] at hr
      have hk := takeP_lt rfl ht
      have hl := argsP_le hk.2.1 ha
      have he : k2 = j := by injection hr with hr; injection hr
      rw [args_pre h (by omega) ha]; exact hr
theorem unlike_pre (h : Pre c d) {i : Nat} {x : S63} {j : Nat} (hr : unlikeP c i = .ok (x, j)) : unlikeP d i = .ok (x, j) := by
  unfold unlikeP at hr ⊢
  cases ht : termP c i with
  | error a => rw [ht] at hr; cases hr
  | ok r =>
    obtain ⟨t, k⟩ := r
    rw [ht] at hr
    rw [term_pre h ht]
    simp only at hr ⊢
    cases ha : takeP c k [14] with
    | error a => rw [ha] at hr; cases hr
    | ok r =>
      obtain ⟨l, k2⟩ := r
      rw [ha] at hr
      rw [take_pre h rfl ha]
      simp only at hr ⊢
      cases hb : termP c k2 with
      | error a => rw [hb] at hr; cases hr
      | ok r =>
        obtain ⟨l2, k3⟩ := r
        rw [hb] at hr
        rw [term_pre h hb]; exact hr
theorem literal_pre (h : Pre c d) {i : Nat} {x : S63} {j : Nat} (hj : j < c.T.length) (hr : literalP c i = .ok (x, j)) : literalP d i = .ok (x, j) := by
  have hij := (literalP_le hr).1
  unfold literalP at hr ⊢
  rw [h.tok i (by omega)]
  split
  · rename_i h7
    rw [if_pos h7] at hr
    cases ha : atomP c (i + 1) with
    | error a => rw [ha] at hr; cases hr
    | ok r =>
      obtain ⟨l, k⟩ := r
      rw [ha] at hr
      have he : k = j := by injection hr with hr; injection hr
      rw [atom_pre h (by omega) ha]; exact hr
  · rename_i h7
    rw [if_neg h7] at hr
    split
    · rename_i h1
      rw [if_pos h1] at hr
      by_cases hu : (i + 1 < c.T.length ∧ (c.at_ (i + 1)).k = 14) ∨ (i + 1 = c.T.length ∧ c.o.k = 14)
      · rw [if_pos hu] at hr
        have ho := h.o
        have hu1 : i + 1 < c.T.length ∧ (c.at_ (i + 1)).k = 14 := by
          rcases hu with hu | hu
          · exact hu
          · omega
        have hl := h.len
        rw [if_pos (.inl ⟨by omega, by rw [h.tok (i + 1) hu1.1]; exact hu1.2⟩)]
        exact unlike_pre h hr
      · rw [if_neg hu] at hr
        cases ha : atomP c i with
        | error a => rw [ha] at hr; cases hr
        | ok r =>
          obtain ⟨l, k⟩ := r
          rw [ha] at hr
          have he : k = j := by injection hr with hr; injection hr
          have hk := (atomP_le ha).1
          have hl := h.len
          rw [if_neg (fun e => by
            rcases e with ⟨_, e⟩ | ⟨e, _⟩
            · rw [h.tok (i + 1) (by omega)] at e; exact hu (.inl ⟨by omega, e⟩)
            · omega), atom_pre h (by omega) ha]
          exact hr
    · rename_i h1
      rw [if_neg h1] at hr
      split
      · rename_i h2; rw [if_pos h2] at hr; exact unlike_pre h hr
      · rename_i h2; rw [if_neg h2] at hr; cases hr
theorem bodyL_pre (h : Pre c d) : ∀ (m i : Nat) (acc l : List S63) (j : Nat), j < c.T.length → bodyL c m i acc = .ok (l, j) → bodyL d m i acc = .ok (l, j)
  | 0, i, acc, l, j, hj, hr => by simp [bodyL] at hr
  | m + 1, i, acc, l, j, hj, hr => by
    unfold bodyL at hr ⊢
    cases ht : literalP c i with
    | error a => rw [ht] at hr; cases hr
    | ok r =>
      obtain ⟨x, k⟩ := r
      rw [ht] at hr
      simp only at hr
      have hk : k < c.T.length := by
        split at hr
        · exact lt_of_kind (by omega)
        · injection hr with hr; injection hr with _ hr; omega
      rw [literal_pre h hk ht]
      simp only
      rw [h.tok k hk]
      split
      · rename_i hgo; rw [if_pos hgo] at hr; exact bodyL_pre h m _ _ _ _ hj hr
      · rename_i hgo; rw [if_neg hgo] at hr; exact hr
theorem rule_pre (h : Pre c d) {i : Nat} {p : ByteArray} {x : S29} {j : Nat} (hi : i ≤ c.T.length) (hr : ruleP c i p = .ok (x, j)) : ruleP d i p = .ok (x, j) := by
  unfold ruleP at hr ⊢
  cases ha : argsP c i with
  | error a => rw [ha] at hr; cases hr
  | ok r =>
    obtain ⟨l, k⟩ := r
    rw [ha] at hr
    simp only at hr
    have hkl := argsP_le hi ha
    have hk : k < c.T.length := by
      split at hr
      · exact lt_of_kind (by omega)
      · split at hr
        · exact lt_of_kind (by omega)
        · cases hr
    rw [args_pre h (by omega) ha]
    simp only
    rw [h.tok k hk]
    split
    · rename_i h13
      rw [if_pos h13] at hr
      cases hb : bodyL c 256 (k + 1) [] with
      | error a => rw [hb] at hr; cases hr
      | ok r =>
        obtain ⟨b, k2⟩ := r
        rw [hb] at hr
        simp only at hr
        cases ht : takeP c k2 [11] with
        | error a => rw [ht] at hr; cases hr
        | ok r =>
          obtain ⟨t, k3⟩ := r
          rw [ht] at hr
          have h2 := takeP_lt rfl ht
          rw [bodyL_pre h _ _ _ _ _ (by omega) hb]
          simp only
          rw [take_pre h rfl ht]; exact hr
    · rename_i h13
      rw [if_neg h13] at hr
      split
      · rename_i h11; rw [if_pos h11] at hr; exact hr
      · rename_i h11; rw [if_neg h11] at hr; cases hr
theorem arity_pre (h : Pre c d) {i : Nat} {x : ByteArray × Nat} {j : Nat} (hr : arityQ c i = .ok (x, j)) : arityQ d i = .ok (x, j) := by
  unfold arityQ at hr ⊢
  cases h1 : takeP c i [1] with
  | error a => rw [h1] at hr; cases hr
  | ok r =>
    rw [h1] at hr
    rw [take_pre h rfl h1]
    simp only at hr ⊢
    cases h2 : takeP c r.2 [12] with
    | error a => rw [h2] at hr; cases hr
    | ok r2 =>
      rw [h2] at hr
      rw [take_pre h rfl h2]
      simp only at hr ⊢
      cases h3 : takeP c r2.2 [3] with
      | error a => rw [h3] at hr; cases hr
      | ok r3 =>
        rw [h3] at hr
        rw [take_pre h rfl h3]; exact hr
theorem statement_pre (h : Pre c d) {i : Nat} {x : Stm} {j : Nat} (hr : statementP c i = .ok (x, j)) : statementP d i = .ok (x, j) := by
  unfold statementP at hr ⊢
  cases h1 : takeP c i [1, 5, 6] with
  | error a => rw [h1] at hr; cases hr
  | ok r =>
    obtain ⟨t, k⟩ := r
    rw [h1] at hr
    have hk := takeP_lt rfl h1
    rw [take_pre h rfl h1]
    simp only at hr ⊢
    split
    · rename_i h5
      rw [if_pos h5] at hr
      cases h2 : arityQ c k with
      | error a => rw [h2] at hr; cases hr
      | ok r2 =>
        rw [h2] at hr
        rw [arity_pre h h2]
        simp only at hr ⊢
        cases h3 : takeP c r2.2 [4] with
        | error a => rw [h3] at hr; cases hr
        | ok r3 =>
          rw [h3] at hr
          rw [take_pre h rfl h3]
          simp only at hr ⊢
          cases h4 : takeP c r3.2 [11] with
          | error a => rw [h4] at hr; cases hr
          | ok r4 =>
            rw [h4] at hr
            rw [take_pre h rfl h4]; exact hr
    · rename_i h5
      rw [if_neg h5] at hr
      split
      · rename_i h6
        rw [if_pos h6] at hr
        cases h2 : arityQ c k with
        | error a => rw [h2] at hr; cases hr
        | ok r2 =>
          rw [h2] at hr
          rw [arity_pre h h2]
          simp only at hr ⊢
          cases h3 : takeP c r2.2 [11] with
          | error a => rw [h3] at hr; cases hr
          | ok r3 =>
            rw [h3] at hr
            rw [take_pre h rfl h3]; exact hr
      · rename_i h6
        rw [if_neg h6] at hr
        cases h2 : ruleP c k t.t with
        | error a => rw [h2] at hr; cases hr
        | ok r2 =>
          rw [h2] at hr
          rw [rule_pre h hk.2.1 h2]; exact hr
theorem programL_pre (h : Pre c d) : ∀ (n i k : Nat) (acc l : List Stm) (j : Nat), i ≤ c.T.length → d.T.length < k + c.T.length → programL c n i acc = .ok (l, j) → programL d (n + k) i acc = programL d (d.T.length + 1) j l
  | 0, i, k, acc, l, j, hi, hk, hr => by simp [programL] at hr
  | n + 1, i, k, acc, l, j, hi, hk, hr => by
    have hl := h.len
    unfold programL at hr
    by_cases hlt : i < c.T.length
    · rw [if_pos hlt] at hr
      cases hs : statementP c i with
      | error a => rw [hs] at hr; cases hr
      | ok r =>
        obtain ⟨x, i1⟩ := r
        rw [hs] at hr
        have hi1 := statementP_le hs
        have ih := programL_pre h n i1 k _ _ _ hi1.2 hk hr
        rw [show n + 1 + k = (n + k) + 1 by omega]
        conv => lhs; unfold programL
        rw [if_pos (by omega), statement_pre h hs]
        exact ih
    · rw [if_neg hlt] at hr
      injection hr with hr
      injection hr with h1 h2
      subst h1; subst h2
      have e1 := programL_fuel (c := d) k i (n + 1) acc (by omega) (by omega)
      have e2 := programL_fuel (c := d) k i (d.T.length + 1) acc (by omega) (by omega)
      have e3 := programL_fuel (c := d) (d.T.length + 1) i k acc (by omega) (by omega)
      rw [show n + 1 + k = k + (n + 1) by omega, e1, ← e2, ← e3, Nat.add_comm]
end

/-! #### the law -/
def shS (D : Nat) : Stm → Stm
  | .inp x a => .inp x (a + D)
  | .out x a => .out x (a + D)
  | .rul x a => .rul x (a + D)
theorem listR_sh (D : Nat) : ∀ (l m : List Stm), ListR (StmR (fun a b => b = a + D)) l m → m = l.map (shS D)
  | [], [], _ => rfl
  | [], _ :: _, h => h.elim
  | _ :: _, [], h => h.elim
  | x :: l, y :: m, h => by
    obtain ⟨h1, h2⟩ := h
    rw [List.map_cons, ← listR_sh D l m h2]
    congr 1
    cases x <;> cases y <;> simp only [StmR] at h1 <;> first | exact h1.elim | (obtain ⟨rfl, rfl⟩ := h1; rfl)

theorem rd_map (D : Nat) (T1 T2 : List Tok) (i : Nat) : rd_T71 (T1 ++ T2.map (shT D)) (i + T1.length) = shT D (rd_T71 T2 i) := by
  unfold rd_T71
  rw [List.getD_eq_getElem?_getD, List.getD_eq_getElem?_getD, List.getElem?_append_right (by omega), Nat.add_sub_cancel, List.getElem?_map]
  cases T2[i]? <;> rfl

/-- A text that is a program: it is cut to its end. -/
theorem programP_ok {s : ByteArray} {l : List Stm} (h : programP s = .ok l) : (toks s).2.2.2 = 0 ∧ programL (src s) ((src s).T.length + 1) 0 [] = .ok (l, (src s).T.length) := by
  unfold programP programC at h
  cases hp : programL (src s) ((src s).T.length + 1) 0 [] with
  | error a => rw [hp] at h; simp at h
  | ok r =>
    obtain ⟨l2, j⟩ := r
    have hj := programL_le _ _ _ _ _ (Nat.zero_le _) hp
    subst hj
    rw [hp] at h
    simp only at h
    by_cases hb : (src s).far < s.size ∨ (src s).o.k ≠ 0
    · rw [if_pos hb] at h; cases h
    · rw [if_neg hb] at h
      · injection h with h
        obtain ⟨h1, h2, _⟩ := toks_ends s
        refine ⟨h1.1 ⟨?_, ?_⟩, by rw [← h]⟩
        · have : ¬ (src s).far < s.size := fun e => hb (.inl e)
          have e : (src s).far = (toks s).2.2.1 := rfl
          omega
        · have : ¬ (src s).o.k ≠ 0 := fun e => hb (.inr e)
          have e : (src s).o = (toks s).2.1 := rfl
          rw [← e]; omega

theorem join_law {J s t : ByteArray} (hJ : Joint J s t) {l1 : List Stm} (h1 : programP s = .ok l1) :
    (∀ a, programP t = .error a → programP J = .error (a + (s.size + 1))) ∧ ∀ l2, programP t = .ok l2 → programP J = .ok (l1 ++ l2.map (shS (s.size + 1))) := by
  obtain ⟨hs0, hp1⟩ := programP_ok h1
  obtain ⟨_, _, hk2⟩ := toks_ends t
  obtain ⟨he1, _, _⟩ := toks_ends s
  have hj := toks_join hJ (T1 := (toks s).1) (o := (toks s).2.1) (f := (toks s).2.2.1) (by rw [← hs0])
  have hT : (src J).T = (src s).T ++ (src t).T.map (shT (s.size + 1)) := by show (toks J).1 = _; rw [hj]; rfl
  have ho : (src J).o = shT (s.size + 1) (src t).o := by show (toks J).2.1 = _; rw [hj]; rfl
  have hf : (src J).far = (src t).far + (s.size + 1) := by show (toks J).2.2.1 = _; rw [hj]; rfl
  have hlen : (src J).T.length = (src t).T.length + (src s).T.length := by rw [hT, List.length_append, List.length_map]; omega
  have hpre : Pre (src s) (src J) := by
    refine ⟨by omega, fun i hi => ?_, (he1.2 hs0).2⟩
    show rd_T71 (src J).T i = rd_T71 (src s).T i
    unfold rd_T71
    rw [hT, List.getD_eq_getElem?_getD, List.getD_eq_getElem?_getD, List.getElem?_append_left hi]
  have hsim : Sim (fun a b => b = a + (s.size + 1)) (src s).T.length (src t) (src J) := by
    refine ⟨hlen, fun i hi => ?_, by rw [ho, shT_k], fun h0 => by rw [ho, shT_a _ _ h0], hf⟩
    have e : (src J).at_ (i + (src s).T.length) = shT (s.size + 1) ((src t).at_ i) := by
      show rd_T71 (src J).T _ = _
      rw [hT]; exact rd_map _ _ _ _
    have hk : ((src t).at_ i).k ≠ 0 := hk2 _ (by
      show rd_T71 (src t).T i ∈ (src t).T
      unfold rd_T71
      rw [List.getD_eq_getElem?_getD, List.getElem?_eq_getElem hi]
      exact List.getElem_mem hi)
    rw [e]
    exact ⟨shT_k _ _, shT_t _ _, fun m => by rw [shT_a _ _ hk]; omega, shT_e _ _ hk⟩
  have hgo : programL (src J) ((src J).T.length + 1) 0 [] = programL (src J) ((src J).T.length + 1) (0 + (src s).T.length) (l1 ++ []) := by
    have e1 := programL_pre hpre ((src s).T.length + 1) 0 ((src J).T.length + 1) [] l1 _ (Nat.zero_le _) (by omega) hp1
    have e2 := programL_fuel (c := src J) ((src J).T.length + 1) 0 ((src s).T.length + 1) [] (Nat.zero_le _) (by omega)
    rw [← e2, Nat.add_comm ((src J).T.length + 1), e1, Nat.zero_add, List.append_nil]
  have hlaw := programL_sim hsim l1 ((src J).T.length + 1) 0 [] [] (Nat.zero_le _) (by omega) trivial
  have hfu := programL_fuel (c := src t) ((src t).T.length + 1) 0 (src s).T.length [] (Nat.zero_le _) (by omega)
  rw [show (src t).T.length + 1 + (src s).T.length = (src J).T.length + 1 by omega] at hfu
  rw [hfu] at hlaw
  have hsz := hJ.size
  unfold programP programC
  rw [hgo]
  rcases hlaw.cases with ⟨a, b, e1, e2, he⟩ | ⟨x, y, j, e1, e2, r, hr, hl⟩
  · rw [e1, e2]
    refine ⟨fun a' h => ?_, fun l2 h => ?_⟩
    · injection h with h; subst h; subst he; rfl
    · cases h
  · have hjl := programL_le _ _ _ _ _ (Nat.zero_le _) e1
    subst hjl
    rw [e1, e2]
    simp only
    have hb : ((src J).far < J.size ∨ (src J).o.k ≠ 0) ↔ ((src t).far < t.size ∨ (src t).o.k ≠ 0) := by
      rw [hf, ho, shT_k, hsz]; omega
    by_cases hbt : (src t).far < t.size ∨ (src t).o.k ≠ 0
    · rw [if_pos hbt, if_pos (hb.2 hbt)]
      refine ⟨fun a h => ?_, fun l2 h => ?_⟩
      · injection h with h; subst h; rw [stop_sim hsim _ (Nat.le_refl _)]
      · cases h
    · rw [if_neg hbt, if_neg (fun e => hbt (hb.1 e))]
      refine ⟨fun a h => ?_, fun l2 h => ?_⟩
      · cases h
      injection h with h
      subst h
      rw [hr, listR_sh _ _ _ hl]
end Go.Proofs.Ytdodajpiidkglaa.K

namespace Go.Proofs.Ytdodajpiidkglaa.K
open Go.RowKit Go.Proofs.YtdodajpiidkglaaW.PrintWords Go.Proofs.Ytdodajpiidkglaa.PAll
set_option linter.unusedVariables false

theorem qd_in : ∀ (l r : List UInt8) (st h i : Nat) (acc : List UInt8), (qd st h (l ++ 10 :: r) i acc).2.2 = true → (qd st h (l ++ 10 :: r) i acc).2.1 ≤ i + l.length
  | [], r, st, h, i, acc => by
    rcases st with _ | _ | _ | st <;> simp [qd, hexv]
  | c :: l, r, st, h, i, acc => by
    have e := fun st h acc => qd_in l r st h (i + 1) acc
    rw [List.cons_append, List.length_cons]
    rcases st with _ | _ | _ | st
    · simp only [qd]
      split
      · intro _; show i + 1 ≤ _; omega
      · split
        · intro h; simp at h
        · split
          · intro h; have := e _ _ _ h; omega
          · intro h; have := e _ _ _ h; omega
    · simp only [qd]
      split
      · intro h; have := e _ _ _ h; omega
      · split
        · intro h; have := e _ _ _ h; omega
        · split
          · intro h; have := e _ _ _ h; omega
          · split
            · intro h; have := e _ _ _ h; omega
            · intro h; simp at h
    · simp only [qd]
      cases hexv c with
      | none => intro h; simp at h
      | some d => intro h; have := e _ _ _ h; simp only at this ⊢; omega
    · simp only [qd]
      cases hexv c with
      | none => intro h; simp at h
      | some d => intro h; have := e _ _ _ h; simp only at this ⊢; omega
theorem nextF_in (l r : List UInt8) (i : Nat) (h : (nextF (l ++ 10 :: r) i).2 = true) : (nextF (l ++ 10 :: r) i).1.e ≤ i + l.length := by
  cases l with
  | nil => simp [nextF, sg1, wrun, wordB, lowB, uppB, digB, kindF] at h
  | cons c l =>
    have hw : wrun (digB c.toNat) 64 (c :: (l ++ 10 :: r)) = wrun (digB c.toNat) 64 (c :: l) := wrun_nl _ 64 (c :: l) r
    have hl := (wrun_len (digB c.toNat) 64 (c :: l)).2.1
    have hq := qd_in l r 0 0 (i + 1) []
    rw [List.cons_append] at h ⊢
    unfold nextF at h ⊢
    dsimp only at h ⊢
    rw [hw] at h ⊢
    rw [List.length_cons] at hl ⊢
    split
    · rename_i h34
      rw [if_pos h34] at h
      have := hq h
      show (qd 0 0 (l ++ 10 :: r) (i + 1) []).2.1 ≤ _
      omega
    · rename_i h34
      rw [if_neg h34] at h
      split
      · show i + 1 ≤ _; omega
      · rename_i hs
        rw [if_neg hs] at h
        split
        · rename_i h58
          rw [if_pos h58] at h
          cases l with
          | nil => simp at h
          | cons d l => rw [List.length_cons]; split <;> (simp only; omega)
        · rename_i h58
          rw [if_neg h58] at h
          split
          · rename_i h33
            rw [if_pos h33] at h
            cases l with
            | nil => simp at h
            | cons d l => rw [List.length_cons]; split <;> (simp only; omega)
          · rename_i h33
            rw [if_neg h33] at h
            split
            · show 0 ≤ _; omega
            · show i + _ ≤ _; omega

/-- A text of blanks and remarks alone, from wherever. -/
def Gap (G : List UInt8) : Prop := ∀ (r : List UInt8) (i : Nat), blk false (G ++ r) i = blk false r (i + G.length)
theorem blk_remark : ∀ (l r : List UInt8) (i : Nat), (∀ c ∈ l, c.toNat ≠ 10) → blk true (l ++ r) i = blk true r (i + l.length)
  | [], r, i, _ => rfl
  | c :: l, r, i, h => by
    rw [List.cons_append]
    simp only [blk, if_neg (h c (List.mem_cons_self ..)), List.length_cons]
    rw [blk_remark l r (i + 1) (fun d hd => h d (List.mem_cons_of_mem _ hd)), show i + (l.length + 1) = i + 1 + l.length by omega]
theorem gap_of (l : List UInt8) (h : ∀ c ∈ l, c.toNat ≠ 10) : Gap (37 :: 32 :: (l ++ [10, 9, 32, 13])) := by
  intro r i
  have e := blk_remark (32 :: l) (10 :: 9 :: 32 :: 13 :: r) (i + 1) (fun c hc => by
    rcases List.mem_cons.1 hc with hc | hc
    · rw [hc]; decide
    · exact h c hc)
  have h1 : blk false (37 :: 32 :: (l ++ [10, 9, 32, 13]) ++ r) i = blk true ((32 :: l) ++ (10 :: 9 :: 32 :: 13 :: r)) (i + 1) := by
    simp [blk]
  rw [h1, e]
  simp only [blk, List.length_cons, List.length_append, List.length_nil]
  simp
  congr 1
  omega

def TRk : Tok → Tok → Prop := TR (fun _ _ => True)
theorem trk_of {t u : Tok} (h1 : u.k = t.k) (h2 : u.t = t.t) : TRk t u := ⟨h1, h2, fun _ _ => trivial, trivial⟩
/-- s is P, a byte 10, Q; J is P, a byte 10, G, Q. -/
structure Ins (s J : ByteArray) (P G Q : List UInt8) : Prop where
  s : s.data.toList = P ++ 10 :: Q
  J : J.data.toList = P ++ 10 :: (G ++ Q)
  g : Gap G
def phi (P G : List UInt8) (i : Nat) : Nat := if i ≤ P.length then i else i + G.length
section
variable {s J : ByteArray} {P G Q : List UInt8}
theorem Ins.sz (h : Ins s J P G Q) : s.size = P.length + 1 + Q.length ∧ J.size = P.length + 1 + G.length + Q.length := by
  rw [← size_list s, ← size_list J, h.s, h.J]
  simp only [List.length_append, List.length_cons]; omega
theorem Ins.old (h : Ins s J P G Q) {i : Nat} (hi : i ≤ P.length) : from_ s i = P.drop i ++ 10 :: Q ∧ from_ J i = P.drop i ++ 10 :: (G ++ Q) := by
  unfold from_
  rw [h.s, h.J, List.drop_append_of_le_length hi, List.drop_append_of_le_length hi]
  exact ⟨rfl, rfl⟩
theorem Ins.new (h : Ins s J P G Q) {i : Nat} (hi : P.length < i) : from_ J (i + G.length) = from_ s i := by
  unfold from_
  obtain ⟨k, hk⟩ : ∃ k, i - P.length = k + 1 := ⟨i - P.length - 1, by omega⟩
  have a1 : P.drop (i + G.length) = [] := List.drop_eq_nil_of_le (by omega)
  have a2 : P.drop i = [] := List.drop_eq_nil_of_le (by omega)
  have a3 : G.drop (k + G.length) = [] := List.drop_eq_nil_of_le (by omega)
  rw [h.s, h.J, List.drop_append, List.drop_append, a1, a2, List.nil_append, List.nil_append, hk, show i + G.length - P.length = k + G.length + 1 by omega, List.drop_succ_cons, List.drop_succ_cons, List.drop_append, a3, List.nil_append]
  congr 1; omega
theorem phi_inj (P G : List UInt8) {i j : Nat} (h : phi P G i = phi P G j) : i = j := by
  unfold phi at h
  split at h <;> split at h <;> omega
theorem Ins.blank (h : Ins s J P G Q) (e : Nat) : blk false (from_ J (phi P G e)) (phi P G e) = phi P G (blk false (from_ s e) e) := by
  by_cases he : e ≤ P.length
  · obtain ⟨h1, h2⟩ := h.old he
    have hp : phi P G e = e := if_pos he
    rw [hp, h1, h2, blk_nl, blk_nl, List.length_drop, h.g Q, blk_shift]
    have hb := blk_le (P.drop e) false e
    rw [List.length_drop] at hb
    have hb2 := blk_le Q false (e + (P.length - e) + 1)
    split
    · unfold phi; rw [if_pos (by omega)]
    · unfold phi; rw [if_neg (by omega)]
  · have hp : phi P G e = e + G.length := if_neg he
    have hb := blk_le (from_ s e) false e
    rw [hp, h.new (by omega), blk_shift]
    unfold phi
    rw [if_neg (by omega)]
theorem Ins.next (h : Ins s J P G Q) (i : Nat) : (nextF (from_ J (phi P G i)) (phi P G i)).2 = (nextF (from_ s i) i).2 ∧ TRk (nextF (from_ s i) i).1 (nextF (from_ J (phi P G i)) (phi P G i)).1 ∧
    ((nextF (from_ s i) i).2 = true → (nextF (from_ J (phi P G i)) (phi P G i)).1.e = phi P G (nextF (from_ s i) i).1.e) := by
  by_cases he : i ≤ P.length
  · obtain ⟨h1, h2⟩ := h.old he
    have hp : phi P G i = i := if_pos he
    have hn := nextF_nl (P.drop i) Q (G ++ Q) i
    have hin := nextF_in (P.drop i) Q i
    rw [List.length_drop] at hin
    rw [hp, h1, h2, ← hn]
    refine ⟨rfl, trk_of rfl rfl, fun ht => ?_⟩
    have := hin ht
    unfold phi
    rw [if_pos (by omega)]
  · have hp : phi P G i = i + G.length := if_neg he
    rw [hp, h.new (by omega), nextF_shift]
    refine ⟨rfl, trk_of (shT_k _ _) (shT_t _ _), fun ht => ?_⟩
    have hend := (nextF_end (from_ s i) i).2.1 ht
    simp only
    rw [shT_e _ _ hend.2.2]
    unfold phi
    rw [if_neg (by omega)]
theorem tok_ins (h : Ins s J P G Q) : ∀ (n N i : Nat) (j : Option Nat) (acc acc2 : List Tok), i ≤ s.size → s.size < n + i → J.size < N + phi P G i → ListR TRk acc acc2 →
    ListR TRk (tokF s n i j acc).1 (tokF J N (phi P G i) (j.map (phi P G)) acc2).1 ∧ (tokF J N (phi P G i) (j.map (phi P G)) acc2).2.1.k = (tokF s n i j acc).2.1.k ∧ (tokF J N (phi P G i) (j.map (phi P G)) acc2).2.2.2 = (tokF s n i j acc).2.2.2
  | 0, N, i, j, acc, acc2, hi, hn, hN, ha => by omega
  | n + 1, N, i, j, acc, acc2, hi, hn, hN, ha => by
    have hsz := h.sz
    have hphi : i < s.size ↔ phi P G i < J.size := by unfold phi; split <;> omega
    obtain ⟨h2, h3, h4⟩ := h.next i
    by_cases hlt : i < s.size
    · obtain ⟨N, rfl⟩ : ∃ m, N = m + 1 := ⟨N - 1, by have := hphi.1 hlt; unfold phi at hN this; split at hN <;> omega⟩
      unfold tokF
      rw [if_pos hlt, if_pos (hphi.1 hlt), h3.kk, h2]
      have hj : (j.map (phi P G) = some (phi P G i)) ↔ j = some i := by
        cases j with
        | none => simp
        | some j => simp only [Option.map_some, Option.some.injEq]; exact ⟨fun e => phi_inj P G e, fun e => by rw [e]⟩
      by_cases hw : isWord (nextF (from_ s i) i).1.k = true ∧ j = some i
      · rw [if_pos hw, if_pos ⟨hw.1, hj.2 hw.2⟩]; exact ⟨ha, rfl, rfl⟩
      · rw [if_neg hw, if_neg (c := isWord (nextF (from_ s i) i).1.k = true ∧ j.map (phi P G) = some (phi P G i)) (fun e => hw ⟨e.1, hj.1 e.2⟩)]
        by_cases hf : (nextF (from_ s i) i).2 = false
        · rw [if_pos hf, if_pos hf]; exact ⟨ha, h3.kk, rfl⟩
        · rw [if_neg hf, if_neg hf]
          have ht : (nextF (from_ s i) i).2 = true := by cases h5 : (nextF (from_ s i) i).2 <;> simp_all
          have hend := nextF_end (from_ s i) i
          rw [from_len] at hend
          have hend2 := hend.2.1 ht
          have hb := blk_le (from_ s (nextF (from_ s i) i).1.e) false (nextF (from_ s i) i).1.e
          rw [from_len] at hb
          rw [h4 ht, h.blank]
          have hmono : phi P G i < phi P G (blk false (from_ s (nextF (from_ s i) i).1.e) (nextF (from_ s i) i).1.e) := by unfold phi; split <;> split <;> omega
          have := tok_ins h n N (blk false (from_ s (nextF (from_ s i) i).1.e) (nextF (from_ s i) i).1.e) (if isWord (nextF (from_ s i) i).1.k then some (nextF (from_ s i) i).1.e else none) (acc ++ [(nextF (from_ s i) i).1]) (acc2 ++ [(nextF (from_ J (phi P G i)) (phi P G i)).1]) (by omega) (by omega) (by omega) (ha.snoc h3)
          have hm : ((if isWord (nextF (from_ s i) i).1.k = true then some (nextF (from_ s i) i).1.e else none : Option Nat).map (phi P G)) = if isWord (nextF (from_ s i) i).1.k = true then some (phi P G (nextF (from_ s i) i).1.e) else none := by split <;> rfl
          rw [hm] at this
          exact this
    · cases N with
      | zero => unfold phi at hN; split at hN <;> omega
      | succ N =>
        unfold tokF
        rw [if_neg hlt, if_neg (c := phi P G i < J.size) (fun e => hlt (hphi.2 e))]
        exact ⟨ha, rfl, rfl⟩
theorem toks_ins (h : Ins s J P G Q) : ListR TRk (toks s).1 (toks J).1 ∧ (toks J).2.1.k = (toks s).2.1.k ∧ (toks J).2.2.2 = (toks s).2.2.2 := by
  have hb := blk_le (from_ s 0) false 0
  rw [from_len] at hb
  have hbl := h.blank 0
  have h0 : phi P G 0 = 0 := if_pos (Nat.zero_le _)
  rw [h0] at hbl
  have := tok_ins h (s.size + 1) (J.size + 1) (blk false (from_ s 0) 0) none [] [] (by omega) (by omega) (by omega) trivial
  rw [← hbl] at this
  exact this
end
theorem ListR.len {α β : Type} {R : α → β → Prop} : ∀ {l : List α} {m : List β}, ListR R l m → m.length = l.length
  | [], [], _ => rfl
  | _ :: _, _ :: _, h => by rw [List.length_cons, List.length_cons, ListR.len h.2]
  | [], _ :: _, h => h.elim
  | _ :: _, [], h => h.elim
theorem ListR.get {α β : Type} {R : α → β → Prop} (z : α) (y : β) : ∀ {l : List α} {m : List β} (i : Nat), ListR R l m → i < l.length → R (l.getD i z) (m.getD i y)
  | a :: l, b :: m, 0, h, _ => h.1
  | a :: l, b :: m, i + 1, h, hi => ListR.get z y i h.2 (by simpa using hi)
  | [], _, _, _, hi => by simp at hi
  | _ :: _, [], _, h, _ => h.elim

/-- The same program but for its places, or none both times. -/
def Alike : Except Nat (List Stm) → Except Nat (List Stm) → Prop
  | .error _, .error _ => True
  | .ok l, .ok m => ListR (StmR (fun _ _ => True)) l m
  | _, _ => False
theorem stmR_refl (x : Stm) : StmR (fun _ _ => True) x x := by cases x <;> exact ⟨rfl, trivial⟩
theorem listR_refl : ∀ l : List Stm, ListR (StmR (fun _ _ => True)) l l
  | [] => trivial
  | x :: l => ⟨stmR_refl x, listR_refl l⟩
theorem stmR_trans {x y z : Stm} (h : StmR (fun _ _ => True) x y) (k : StmR (fun _ _ => True) y z) : StmR (fun _ _ => True) x z := by
  cases x <;> cases y <;> cases z <;> simp only [StmR, and_true] at h k ⊢ <;> first | exact h.trans k | exact h | exact k | exact h.elim
theorem listR_trans : ∀ {l m n : List Stm}, ListR (StmR (fun _ _ => True)) l m → ListR (StmR (fun _ _ => True)) m n → ListR (StmR (fun _ _ => True)) l n
  | [], [], [], _, _ => trivial
  | _ :: _, _ :: _, _ :: _, h, k => ⟨stmR_trans h.1 k.1, listR_trans h.2 k.2⟩
  | [], _ :: _, _, h, _ => h.elim
  | _ :: _, [], _, h, _ => h.elim
  | [], [], _ :: _, _, k => k.elim
  | _ :: _, _ :: _, [], _, k => k.elim
theorem alike_refl (r : Except Nat (List Stm)) : Alike r r := by
  cases r with
  | error a => trivial
  | ok l => exact listR_refl l
theorem alike_trans {a b c : Except Nat (List Stm)} (h : Alike a b) (k : Alike b c) : Alike a c := by
  cases a <;> cases b <;> cases c <;> first | exact trivial | exact h.elim | exact k.elim | exact listR_trans h k
theorem ins_alike {s J : ByteArray} {P G Q : List UInt8} (h : Ins s J P G Q) : Alike (programP s) (programP J) := by
  obtain ⟨h1, h2, h3⟩ := toks_ins h
  have hsim : Sim (fun _ _ => True) 0 (src s) (src J) := by
    refine ⟨ListR.len h1, fun i hi => ?_, h2, fun _ => trivial, trivial⟩
    exact ListR.get Tok.zero Tok.zero i h1 hi
  have hc : ((src J).far < J.size ∨ (src J).o.k ≠ 0) ↔ ((src s).far < s.size ∨ (src s).o.k ≠ 0) := by
    have e1 := toks_ends s
    have e2 := toks_ends J
    have f1 : (src s).far = (toks s).2.2.1 := rfl
    have f2 : (src J).far = (toks J).2.2.1 := rfl
    have g1 : (src s).o = (toks s).2.1 := rfl
    have g2 : (src J).o = (toks J).2.1 := rfl
    have l1 := e1.2.1
    have l2 := e2.2.1
    have i1 := e1.1
    have i2 := e2.1
    rw [h3] at i2
    rw [f1, f2, g1, g2]
    omega
  have hl : (src J).T.length = (src s).T.length := ListR.len h1
  have hlaw := programL_sim hsim [] ((src s).T.length + 1) 0 [] [] (Nat.zero_le _) (by omega) trivial
  simp only [List.nil_append, Nat.add_zero] at hlaw
  unfold programP programC
  rw [hl]
  rcases hlaw.cases with ⟨a, b, e1, e2, he⟩ | ⟨x, y, j, e1, e2, r, hr, hll⟩
  · rw [e1, e2]; exact trivial
  · rw [e1, e2]
    simp only
    by_cases hb : (src s).far < s.size ∨ (src s).o.k ≠ 0
    · rw [if_pos hb, if_pos (hc.2 hb)]; exact trivial
    · rw [if_neg hb, if_neg (fun e => hb (hc.1 e))]
      rw [hr]; exact hll
theorem alike_lists {l m : List Stm} (h : ListR (StmR (fun _ _ => True)) l m) : insOf m = insOf l ∧ outsOf m = outsOf l ∧ rulesOf m = rulesOf l ∧ (insAt m).length = (insAt l).length ∧ (outsAt m).length = (outsAt l).length ∧ (rulesAt m).length = (rulesAt l).length := by
  induction l generalizing m with
  | nil =>
    cases m with
    | nil => exact ⟨rfl, rfl, rfl, rfl, rfl, rfl⟩
    | cons y m => exact h.elim
  | cons x l ih =>
    cases m with
    | nil => exact h.elim
    | cons y m =>
      obtain ⟨h1, h2⟩ := h
      obtain ⟨i1, i2, i3, i4, i5, i6⟩ := ih h2
      cases x <;> cases y <;> simp only [StmR, and_true] at h1 <;> first | exact h1.elim | (subst h1; simp [insOf, outsOf, rulesOf, insAt, outsAt, rulesAt] at i1 i2 i3 i4 i5 i6 ⊢; simp [i1, i2, i3, i4, i5, i6])
end Go.Proofs.Ytdodajpiidkglaa.K
