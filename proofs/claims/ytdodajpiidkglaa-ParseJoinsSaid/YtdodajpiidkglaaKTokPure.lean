/- What lex.blank and lex.Tokens compute; tokens as rows in memory. No conditions beyond those of each lemma. -/
import Derived.Test.YtdodajpiidkglaaKNext
import Derived.Test.YtdodajpiidkglaaGLex
namespace Go.Proofs.Ytdodajpiidkglaa.K
open Go.RowKit Go.Proofs.YtdodajpiidkglaaW.PrintWords Go.Proofs.YtdodajpiidkglaaW.PrintLast Go.Proofs.YtdodajpiidkglaaW.PrintMore Go.Proofs.Ytdodajpiidkglaa.PAll
set_option linter.unusedVariables false

/-- Behind blanks and remarks (true: within a remark). -/
def blk : Bool → List UInt8 → Nat → Nat
  | _, [], i => i
  | true, c :: r, i => if c.toNat = 10 then blk false r (i + 1) else blk true r (i + 1)
  | false, c :: r, i => if c.toNat = 37 then blk true r (i + 1) else if c.toNat = 32 ∨ c.toNat = 9 ∨ c.toNat = 10 ∨ c.toNat = 13 then blk false r (i + 1) else i

theorem blk_le : ∀ (l : List UInt8) (b : Bool) (i : Nat), i ≤ blk b l i ∧ blk b l i ≤ i + l.length
  | [], b, i => by cases b <;> simp [blk]
  | c :: r, true, i => by
    simp only [blk]
    split
    · have := blk_le r false (i + 1); simp only [List.length_cons]; omega
    · have := blk_le r true (i + 1); simp only [List.length_cons]; omega
  | c :: r, false, i => by
    simp only [blk]
    split
    · have := blk_le r true (i + 1); simp only [List.length_cons]; omega
    · split
      · have := blk_le r false (i + 1); simp only [List.length_cons]; omega
      · simp only [List.length_cons]; omega

theorem blank_loop (s : ByteArray) (hs : s.size ≤ 140737488355328) : ∀ (d i : Nat) (b : Bool) (k : Nat), i + d = s.size → d < k → lex_blank.l0 k s (i : Int) b = some (blk b (from_ s i) i : Int) := by
  intro d
  induction d with
  | zero =>
    intro i b k hi hk
    obtain ⟨k, rfl⟩ : ∃ m, k = m + 1 := ⟨k - 1, by omega⟩
    rw [from_end s i (by omega)]
    simp only [lex_blank.l0]
    rw [if_neg (by omega)]
    cases b <;> rfl
  | succ d ih =>
    intro i b k hi hk
    obtain ⟨k, rfl⟩ : ∃ m, k = m + 1 := ⟨k - 1, by omega⟩
    obtain ⟨c, hc, hb⟩ := from_cons s i (by omega)
    have hw : wrap64 ((i : Int) + 1) = ((i + 1 : Nat) : Int) := by unfold wrap64; omega
    simp only [lex_blank.l0]
    rw [if_pos (by omega), if_pos (by omega), hb, hw, hc]
    cases b with
    | true =>
      rw [if_pos rfl]
      simp only [blk]
      by_cases h : c.toNat = 10
      · rw [if_pos h, show ((c.toNat : Int) != 10) = false from bne_eq_false_iff_eq.2 (by omega)]; exact ih (i + 1) false k (by omega) (by omega)
      · rw [if_neg h, show ((c.toNat : Int) != 10) = true from bne_iff_ne.2 (by omega)]; exact ih (i + 1) true k (by omega) (by omega)
    | false =>
      rw [if_neg (by simp)]
      simp only [blk]
      by_cases h37 : c.toNat = 37
      · rw [if_pos (by omega), if_pos h37]; exact ih (i + 1) true k (by omega) (by omega)
      · rw [if_neg (by omega), if_neg h37]
        by_cases h32 : c.toNat = 32
        · rw [if_pos (by omega), if_pos (.inl h32)]; exact ih (i + 1) false k (by omega) (by omega)
        · rw [if_neg (by omega)]
          by_cases h9 : c.toNat = 9
          · rw [if_pos (by omega), if_pos (.inr (.inl h9))]; exact ih (i + 1) false k (by omega) (by omega)
          · rw [if_neg (by omega)]
            by_cases h10 : c.toNat = 10
            · rw [if_pos (by omega), if_pos (.inr (.inr (.inl h10)))]; exact ih (i + 1) false k (by omega) (by omega)
            · rw [if_neg (by omega)]
              by_cases h13 : c.toNat = 13
              · rw [if_pos (by omega), if_pos (.inr (.inr (.inr h13)))]; exact ih (i + 1) false k (by omega) (by omega)
              · rw [if_neg (by omega), if_neg (by omega)]

theorem blank_val (s : ByteArray) (hs : s.size ≤ 140737488355328) (i : Nat) (hi : i ≤ s.size) : lex_blank.f (s.size + 1) s (i : Int) = some (blk false (from_ s i) i : Int) := by
  unfold lex_blank.f
  exact blank_loop s hs (s.size - i) i false _ (by omega) (by omega)

theorem qd_end : ∀ (l : List UInt8) (st h i : Nat) (acc : List UInt8), (qd st h l i acc).2.1 ≤ i + l.length ∧ i ≤ (qd st h l i acc).2.1 ∧ ((qd st h l i acc).2.2 = true → i < (qd st h l i acc).2.1)
  | [], st, h, i, acc => by
    rcases st with _ | _ | _ | st <;> simp [qd]
  | c :: r, st, h, i, acc => by
    have e1 := fun a => qd_end r 0 0 (i + 1) a
    have e2 := fun a => qd_end r 1 0 (i + 1) a
    have e3 := fun a => qd_end r 2 0 (i + 1) a
    have e4 := fun d a => qd_end r 3 d (i + 1) a
    rcases st with _ | _ | _ | st
    · simp only [qd, List.length_cons]
      split
      · simp
      · split
        · simp
        · split
          · have := e2 acc; omega
          · have := e1 (acc ++ [c]); omega
    · simp only [qd, List.length_cons]
      split
      · have := e1 (acc ++ [c]); omega
      · split
        · have := e1 (acc ++ [10]); omega
        · split
          · have := e1 (acc ++ [9]); omega
          · split
            · have := e3 acc; omega
            · simp
    · simp only [qd, List.length_cons]
      split
      · simp
      · rename_i d _; have := e4 d acc; omega
    · simp only [qd, List.length_cons]
      split
      · simp
      · rename_i d _; have := e1 (acc ++ [UInt8.ofNat (h * 16 + d)]); omega

theorem kindF_le (l : List UInt8) : kindF l ≤ 7 := by
  unfold kindF
  split
  · omega
  · repeat' split
    all_goals omega

theorem kindF_nil_of (l : List UInt8) (h : kindF l ≠ 0) : l ≠ [] := by
  rintro rfl
  exact h rfl

/-- Where a token that begins at i ends. -/
theorem nextF_end (l : List UInt8) (i : Nat) : (nextF l i).1.e ≤ i + l.length ∧ ((nextF l i).2 = true → i < (nextF l i).1.e ∧ (nextF l i).1.a = i ∧ (nextF l i).1.k ≠ 0) ∧ ((nextF l i).1.k ≠ 0 → i < (nextF l i).1.e ∧ (nextF l i).1.a = i) := by
  cases l with
  | nil => simp [nextF, Tok.zero]
  | cons c r =>
    have hq := qd_end r 0 0 (i + 1) []
    simp only [nextF, List.length_cons]
    split
    · simp only; refine ⟨by omega, fun h => ⟨by omega, trivial, by simp⟩, fun _ => ⟨by omega, trivial⟩⟩
    · split
      · rename_i h; simp only; exact ⟨by omega, fun _ => ⟨by omega, trivial, h⟩, fun _ => ⟨by omega, trivial⟩⟩
      · split
        · split
          · rename_i h
            have : r ≠ [] := by rintro rfl; simp at h
            have := List.length_pos_iff.2 this
            simp; omega
          · simp
        · split
          · split
            · rename_i h
              have : r ≠ [] := by rintro rfl; simp at h
              have := List.length_pos_iff.2 this
              simp; omega
            · simp
          · split
            · simp [Tok.zero]
            · rename_i hk
              have h1 := wrun_len (digB c.toNat) 64 (c :: r)
              have h2 := List.length_pos_iff.2 (kindF_nil_of _ hk)
              simp only [List.length_cons] at h1
              simp only
              exact ⟨by omega, fun _ => ⟨by omega, trivial, hk⟩, fun _ => ⟨by omega, trivial⟩⟩

def isWord (k : Nat) : Bool := decide (0 < k) && decide (k < 8) && !(k == 4)

/-- The tokens of a text from a place on (j: where the last one, a word, has ended). -/
def tokF (s : ByteArray) : Nat → Nat → Option Nat → List Tok → List Tok × Tok × Nat × Nat
  | 0, i, _, acc => (acc, Tok.zero, i, 0)
  | n + 1, i, j, acc =>
    if i < s.size then
      if isWord (nextF (from_ s i) i).1.k = true ∧ j = some i then (acc, Tok.zero, i, 11)
      else if (nextF (from_ s i) i).2 = false then (acc, (nextF (from_ s i) i).1, if (nextF (from_ s i) i).1.k = 0 then i else (nextF (from_ s i) i).1.e, 11)
      else tokF s n (blk false (from_ s (nextF (from_ s i) i).1.e) (nextF (from_ s i) i).1.e) (if isWord (nextF (from_ s i) i).1.k then some (nextF (from_ s i) i).1.e else none) (acc ++ [(nextF (from_ s i) i).1])
    else (acc, Tok.zero, s.size, 0)

/-- The tokens of a text. -/
def toks (s : ByteArray) : List Tok × Tok × Nat × Nat := tokF s (s.size + 1) (blk false (from_ s 0) 0) none []

theorem info71k : (Try.prog.info? 71).map (fun i => (i.zero, i.size, i.bytes)) = some (some (.agg #[.int .i64 0, .string ⟨#[]⟩, .int .i64 0, .int .i64 0]), 4, 40) := by kernel_rfl

def k71 : Kd Tok := Kd.iso (Kd.pair (Kd.int .i64) (Kd.pair Kd.string (Kd.pair (Kd.int .i64) (Kd.int .i64)))) (fun t : Tok => ((t.k : Int), t.t, (t.a : Int), (t.e : Int)))
theorem k71_open {w : World} {x : Tok} {cs : List Value} (h : k71.K w x cs) : cs = [.int .i64 (x.k : Int), .string x.t, .int .i64 (x.a : Int), .int .i64 (x.e : Int)] := by
  obtain ⟨_, _, rfl, rfl, _, _, rfl, rfl, _, _, rfl, rfl, rfl⟩ := h
  exact rfl
theorem k71_mkM (w : World) (base : Nat) (ok : Nat → Prop) (x : Tok) : k71.M w base ok x [.int .i64 (x.k : Int), .string x.t, .int .i64 (x.a : Int), .int .i64 (x.e : Int)] :=
  ⟨[.int .i64 (x.k : Int)], [.string x.t, .int .i64 (x.a : Int), .int .i64 (x.e : Int)], rfl, rfl, [.string x.t], [.int .i64 (x.a : Int), .int .i64 (x.e : Int)], rfl, rfl, [.int .i64 (x.a : Int)], [.int .i64 (x.e : Int)], rfl, rfl, rfl⟩
def rd_T71 (xs : List Tok) (i : Nat) : Tok := xs.getD i Tok.zero
theorem at_T71 {w : World} {A : Option Addr} {n : Nat} {xs : List Tok} (h : Kd.C k71 w A n xs) (i : Nat) (h1 : i < n) : ∃ ad, A = some ad ∧ w.cell? (ad.add (i * 4)) = some (.int .i64 ((rd_T71 xs i).k : Int)) ∧ w.cell? ⟨(ad.add (i * 4)).block, (ad.add (i * 4)).off + 1, none⟩ = some (.string (rd_T71 xs i).t)
    ∧ w.cell? ⟨(ad.add (i * 4)).block, (ad.add (i * 4)).off + 2, none⟩ = some (.int .i64 ((rd_T71 xs i).a : Int)) ∧ w.cell? ⟨(ad.add (i * 4)).block, (ad.add (i * 4)).off + 3, none⟩ = some (.int .i64 ((rd_T71 xs i).e : Int)) := by
  obtain ⟨ad, c, e, _, hK, hc0⟩ := Kd.C_get h Tok.zero (i : Int) (by omega) (by omega)
  rw [Int.toNat_natCast] at hK hc0
  have hc : ∀ j u, c[j]? = some u → w.cell? (ad.add (i * 4 + j)) = some u := hc0
  obtain rfl := k71_open hK
  exact ⟨ad, e, hc 0 _ rfl, by rw [← add_field _ _ 1 (by omega)]; exact hc 1 _ rfl, by rw [← add_field _ _ 2 (by omega)]; exact hc 2 _ rfl, by rw [← add_field _ _ 3 (by omega)]; exact hc 3 _ rfl⟩
end Go.Proofs.Ytdodajpiidkglaa.K
