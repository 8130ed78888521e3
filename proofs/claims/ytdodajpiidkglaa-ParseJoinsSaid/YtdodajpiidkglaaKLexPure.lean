/- What lex.quoted computes, on lists of bytes: plain Lean. No conditions beyond those of each lemma. What lex.word, lex.kindOf and lex.next compute, on lists of bytes. No conditions beyond those of each lemma. -/
import Derived.Test.YtdodajpiidkglaaWWords
import Derived.Test.YtdodajpiidkglaaGLex
namespace Go.Proofs.Ytdodajpiidkglaa.K

/-- What a digit to the base 16 says. -/
def hexv (c : UInt8) : Option Nat :=
  if 48 ≤ c.toNat ∧ c.toNat ≤ 57 then some (c.toNat - 48) else if 97 ≤ c.toNat ∧ c.toNat ≤ 102 then some (c.toNat - 87) else none

/-- The rest of a string: 0 plain, 1 behind a backslash, 2 the first digit, 3 the second one (h: what the first one says). -/
def qd : Nat → Nat → List UInt8 → Nat → List UInt8 → List UInt8 × Nat × Bool
  | _, _, [], i, _ => ([], i, false)
  | 0, _, c :: r, i, acc =>
    if c.toNat = 34 then (acc, i + 1, true)
    else if acc.length = 1024 ∨ c.toNat < 32 ∨ 126 < c.toNat then ([], i, false)
    else if c.toNat = 92 then qd 1 0 r (i + 1) acc
    else qd 0 0 r (i + 1) (acc ++ [c])
  | 1, _, c :: r, i, acc =>
    if c.toNat = 34 ∨ c.toNat = 92 then qd 0 0 r (i + 1) (acc ++ [c])
    else if c.toNat = 110 then qd 0 0 r (i + 1) (acc ++ [10])
    else if c.toNat = 116 then qd 0 0 r (i + 1) (acc ++ [9])
    else if c.toNat = 120 then qd 2 0 r (i + 1) acc
    else ([], i, false)
  | 2, _, c :: r, i, acc => match hexv c with
    | none => ([], i, false)
    | some h => qd 3 h r (i + 1) acc
  | _ + 3, h, c :: r, i, acc => match hexv c with
    | none => ([], i, false)
    | some d => qd 0 0 r (i + 1) (acc ++ [UInt8.ofNat (h * 16 + d)])

/-- The bytes of a text from a place on. -/
def from_ (s : ByteArray) (i : Nat) : List UInt8 := s.data.toList.drop i

theorem from_end (s : ByteArray) (i : Nat) (h : s.size ≤ i) : from_ s i = [] := by
  unfold from_
  exact List.drop_eq_nil_of_le (by simpa using h)

theorem from_cons (s : ByteArray) (i : Nat) (h : i < s.size) : ∃ c : UInt8, from_ s i = c :: from_ s (i + 1) ∧ Go.Proofs.YtdodajpiidkglaaW.PrintWords.bt s (i : Int) = (c.toNat : Int) := by
  refine ⟨s[i], ?_, ?_⟩
  · unfold from_
    rw [List.drop_eq_getElem_cons (by simpa using h)]
    rfl
  · unfold Go.Proofs.YtdodajpiidkglaaW.PrintWords.bt
    simp [h]

theorem hexv_lt {c : UInt8} {h : Nat} (e : hexv c = some h) : h < 16 := by
  unfold hexv at e
  split at e
  · injection e; omega
  · split at e
    · injection e; omega
    · cases e
end Go.Proofs.Ytdodajpiidkglaa.K

namespace Go.Proofs.Ytdodajpiidkglaa.K
open Go.RowKit Go.Proofs.YtdodajpiidkglaaW.PrintWords Go.Proofs.YtdodajpiidkglaaW.PrintMore Go.Proofs.Ytdodajpiidkglaa.PAll
set_option linter.unusedVariables false

def digB (n : Nat) : Bool := decide (48 ≤ n) && decide (n ≤ 57)
def lowB (n : Nat) : Bool := decide (97 ≤ n) && decide (n ≤ 122)
def uppB (n : Nat) : Bool := decide (65 ≤ n) && decide (n ≤ 90)
def wordB (n : Nat) : Bool := lowB n || uppB n || digB n || n == 95

/-- The longest run of bytes of a word (of a number), of at most so many. -/
def wrun (num : Bool) : Nat → List UInt8 → List UInt8
  | 0, _ => []
  | _ + 1, [] => []
  | m + 1, c :: r => if wordB c.toNat && (!num || decide (c.toNat ≤ 57)) then c :: wrun num m r else []

def kwI : List UInt8 := [105, 110, 112, 117, 116]
def kwO : List UInt8 := [111, 117, 116, 112, 117, 116]
def kwN : List UInt8 := [110, 111, 116]

/-- The kind of a whole text that is a word; 0: it is none. -/
def kindF (l : List UInt8) : Nat :=
  match l with
  | [] => 0
  | c :: r =>
    if 64 < (c :: r).length then 0
    else if (c :: r).all (fun x => wordB x.toNat) then
      if digB c.toNat then (if (c :: r).all (fun x => decide (x.toNat ≤ 57)) then 3 else 0)
      else if uppB c.toNat then 2
      else if c.toNat = 95 then 0
      else if c :: r = kwI then 5
      else if c :: r = kwO then 6
      else if c :: r = kwN then 7
      else 1
    else 0

theorem kindF_cons (c : UInt8) (r : List UInt8) : kindF (c :: r) = if 64 < (c :: r).length then 0
    else if (c :: r).all (fun x => wordB x.toNat) then
      if digB c.toNat then (if (c :: r).all (fun x => decide (x.toNat ≤ 57)) then 3 else 0)
      else if uppB c.toNat then 2
      else if c.toNat = 95 then 0
      else if c :: r = kwI then 5
      else if c :: r = kwO then 6
      else if c :: r = kwN then 7
      else 1
    else 0 := rfl

structure Tok where
  k : Nat
  t : ByteArray
  a : Nat
  e : Nat

def Tok.zero : Tok := ⟨0, ⟨#[]⟩, 0, 0⟩

/-- A sign of one byte: its kind. -/
def sg1 (n : Nat) : Nat := if n = 40 then 8 else if n = 41 then 9 else if n = 44 then 10 else if n = 46 then 11 else if n = 47 then 12 else 0

/-- The token that begins a text (of which so many bytes lie ahead); is it whole? -/
def nextF : List UInt8 → Nat → Tok × Bool
  | [], _ => (Tok.zero, false)
  | c :: r, i =>
    if c.toNat = 34 then (⟨4, ⟨(qd 0 0 r (i + 1) []).1.toArray⟩, i, (qd 0 0 r (i + 1) []).2.1⟩, (qd 0 0 r (i + 1) []).2.2)
    else if sg1 c.toNat ≠ 0 then (⟨sg1 c.toNat, ⟨#[]⟩, i, i + 1⟩, true)
    else if c.toNat = 58 then (if r.head? = some 45 then (⟨13, ⟨#[]⟩, i, i + 2⟩, true) else (⟨13, ⟨#[]⟩, i, i + 1⟩, false))
    else if c.toNat = 33 then (if r.head? = some 61 then (⟨14, ⟨#[]⟩, i, i + 2⟩, true) else (⟨14, ⟨#[]⟩, i, i + 1⟩, false))
    else if kindF (wrun (digB c.toNat) 64 (c :: r)) = 0 then (Tok.zero, false)
    else (⟨kindF (wrun (digB c.toNat) 64 (c :: r)), if 5 ≤ kindF (wrun (digB c.toNat) 64 (c :: r)) then ⟨#[]⟩ else ⟨(wrun (digB c.toNat) 64 (c :: r)).toArray⟩, i, i + (wrun (digB c.toNat) 64 (c :: r)).length⟩, true)

theorem word_vals : ∀ n : Nat, n < 256 → lex_word.f (n : Int) = some (wordB n) := by decide +kernel
theorem word_val (c : UInt8) : lex_word.f (c.toNat : Int) = some (wordB c.toNat) := word_vals _ c.toNat_lt

theorem kindOf_le (k : Nat) (s : ByteArray) : LeO (lex_kindOf.f k s) (lex_kindOf.f (k + 1) s) := lex_kindOf.mono s k

theorem bt_get (s : ByteArray) (l : List UInt8) (hs : s = ⟨l.toArray⟩) (i : Nat) (h : i < l.length) : bt s (i : Int) = ((l[i]'h).toNat : Int) := by
  subst hs
  unfold bt
  have h2 : ((i : Int)).toNat < (⟨l.toArray⟩ : ByteArray).size := by simpa [ByteArray.size] using h
  rw [dif_pos h2]
  rfl

/-- The loop of kindOf over a text of word bytes. -/
theorem kind_loop (l : List UInt8) (hl : l.length ≤ 64) : ∀ (d i : Nat) (dig : Bool), i + d = l.length → dig = (l.take i).all (fun x => decide (x.toNat ≤ 57)) → ∀ k, d + 8 ≤ k →
    (l.drop i).all (fun x => wordB x.toNat) = true →
    lex_kindOf.l0 k ⟨l.toArray⟩ dig (l.length : Int) (i : Int) = lex_kindOf.l0 (k - d) ⟨l.toArray⟩ (l.all (fun x => decide (x.toNat ≤ 57))) (l.length : Int) (l.length : Int) := by
  intro d
  induction d with
  | zero =>
    intro i dig hi hd k hk _
    obtain rfl : i = l.length := by omega
    rw [List.take_length] at hd
    rw [hd]; rfl
  | succ d ih =>
    intro i dig hi hd k hk hw
    obtain ⟨k, rfl⟩ : ∃ m, k = m + 1 := ⟨k - 1, by omega⟩
    have hlt : i < l.length := by omega
    have hb := bt_get ⟨l.toArray⟩ l rfl i hlt
    have hsz : ((⟨l.toArray⟩ : ByteArray).size : Int) = (l.length : Int) := by simp [ByteArray.size]
    rw [List.drop_eq_getElem_cons hlt, List.all_cons, Bool.and_eq_true] at hw
    have hwr : wrap64 ((i : Int) + 1) = ((i + 1 : Nat) : Int) := by unfold wrap64; omega
    have hnext := ih (i + 1) ((l.take (i + 1)).all (fun x => decide (x.toNat ≤ 57))) (by omega) rfl k (by omega) hw.2
    have hsn : (l.take (i + 1)).all (fun x => decide (x.toNat ≤ 57)) = (dig && decide ((l[i]'hlt).toNat ≤ 57)) := by
      rw [List.take_succ_eq_append_getElem hlt, List.all_append, ← hd]; simp
    simp only [lex_kindOf.l0]
    rw [if_pos (by omega), if_pos (by omega), if_pos (by omega), hb, word_val, hw.1]
    simp only [Option.bind_some, if_true]
    rw [hwr]
    rw [hsn] at hnext
    cases dig with
    | true =>
      rw [if_pos rfl]
      simp only [Bool.true_and] at hnext
      rw [show decide (((l[i]'hlt).toNat : Int) ≤ 57) = decide ((l[i]'hlt).toNat ≤ 57) from decide_eq_decide.2 (by omega)]
      rw [hnext]; congr 1; omega
    | false =>
      rw [if_neg (by simp)]
      simp only [Bool.false_and] at hnext
      rw [hnext]; congr 1; omega

/-- A byte that is none of a word ends it. -/
theorem kind_stops (l : List UInt8) (hl : l.length ≤ 64) : ∀ (d i : Nat) (dig : Bool), i + d = l.length → ∀ k, d + 8 ≤ k →
    (l.drop i).all (fun x => wordB x.toNat) = false → lex_kindOf.l0 k ⟨l.toArray⟩ dig (l.length : Int) (i : Int) = some 0 := by
  intro d
  induction d with
  | zero =>
    intro i dig hi k hk hw
    obtain rfl : i = l.length := by omega
    simp at hw
  | succ d ih =>
    intro i dig hi k hk hw
    obtain ⟨k, rfl⟩ : ∃ m, k = m + 1 := ⟨k - 1, by omega⟩
    have hlt : i < l.length := by omega
    have hb := bt_get ⟨l.toArray⟩ l rfl i hlt
    have hsz : ((⟨l.toArray⟩ : ByteArray).size : Int) = (l.length : Int) := by simp [ByteArray.size]
    have hwr : wrap64 ((i : Int) + 1) = ((i + 1 : Nat) : Int) := by unfold wrap64; omega
    rw [List.drop_eq_getElem_cons hlt, List.all_cons] at hw
    simp only [lex_kindOf.l0]
    rw [if_pos (by omega), if_pos (by omega), if_pos (by omega), hb, word_val]
    simp only [Option.bind_some]
    cases hc : wordB (l[i]'hlt).toNat with
    | false => simp
    | true =>
      rw [hc, Bool.true_and] at hw
      rw [if_pos rfl, hwr]
      split
      · exact ih (i + 1) _ (by omega) k (by omega) hw
      · exact ih (i + 1) _ (by omega) k (by omega) hw

theorem kind_val (l : List UInt8) : lex_kindOf.f 100 ⟨l.toArray⟩ = some (kindF l : Int) := by
  have hsz : ((⟨l.toArray⟩ : ByteArray).size : Int) = (l.length : Int) := by simp [ByteArray.size]
  have htl : (⟨l.toArray⟩ : ByteArray).toList = l := ByteArray.toList_mk l
  unfold lex_kindOf.f
  rw [hsz]
  cases l with
  | nil => simp [lex_kindOf.j0, kindF]
  | cons c r =>
    have hpos : ¬ (((c :: r).length : Int) < 1) := by simp; omega
    rw [if_neg hpos]
    by_cases h64 : 64 < (c :: r).length
    · rw [show decide (((c :: r).length : Int) > 64) = true from decide_eq_true (by omega)]
      simp only [lex_kindOf.j0, if_true]
      rw [kindF_cons, if_pos h64]; rfl
    · rw [show decide (((c :: r).length : Int) > 64) = false from decide_eq_false (by omega)]
      simp only [lex_kindOf.j0]
      rw [if_neg (by simp), hsz]
      have hz : (0 : Int) = ((0 : Nat) : Int) := rfl
      cases hw : (c :: r).all (fun x => wordB x.toNat) with
      | false =>
        rw [hz, kind_stops (c :: r) (by omega) (c :: r).length 0 true (by omega) 99 (by omega) (by simpa using hw)]
        rw [kindF_cons, if_neg h64, hw]; rfl
      | true =>
        rw [hz, kind_loop (c :: r) (by omega) (c :: r).length 0 true (by omega) (by simp) 99 (by omega) (by simpa using hw)]
        have hb := bt_get ⟨(c :: r).toArray⟩ (c :: r) rfl 0 (by simp)
        have hcl := c.toNat_lt
        have hc0 : bt ⟨(c :: r).toArray⟩ 0 = (c.toNat : Int) := hb
        have hwr : wrap32 (c.toNat : Int) = (c.toNat : Int) := by unfold wrap32; omega
        have hwc : wordB c.toNat = true := by simp [List.all_cons] at hw; exact hw.1
        obtain ⟨k, hk⟩ : ∃ k, 99 - (c :: r).length = k + 4 := ⟨95 - (c :: r).length, by omega⟩
        rw [hk]
        simp only [lex_kindOf.l0]
        rw [if_neg (by omega), if_pos (by rw [hsz]; simp), hc0, hwr]
        rw [kindF_cons, if_neg h64, hw, if_pos rfl]
        by_cases h48 : 48 ≤ c.toNat
        · rw [if_pos (by omega)]
          by_cases h57 : c.toNat ≤ 57
          · rw [show decide ((c.toNat : Int) ≤ 57) = true from decide_eq_true (by omega)]
            have hd : digB c.toNat = true := by simp [digB, h48, h57]
            rw [hd, if_pos rfl]
            simp only [lex_kindOf.j2, if_true]
            cases (c :: r).all (fun x => decide (x.toNat ≤ 57)) <;> rfl
          · rw [show decide ((c.toNat : Int) ≤ 57) = false from decide_eq_false (by omega)]
            have hd : digB c.toNat = false := by simp [digB, h57]
            rw [hd, if_neg (by simp)]
            simp only [lex_kindOf.j2]
            rw [if_neg (by simp)]
            by_cases h65 : 65 ≤ c.toNat
            · rw [if_pos (by omega)]
              by_cases h90 : c.toNat ≤ 90
              · rw [show decide ((c.toNat : Int) ≤ 90) = true from decide_eq_true (by omega)]
                have hu : uppB c.toNat = true := by simp [uppB, h65, h90]
                rw [hu, if_pos rfl]
                simp only [lex_kindOf.j3, if_true]; rfl
              · rw [show decide ((c.toNat : Int) ≤ 90) = false from decide_eq_false (by omega)]
                have hu : uppB c.toNat = false := by simp [uppB, h90]
                rw [hu, if_neg (by simp)]
                simp only [lex_kindOf.j3]
                rw [if_neg (by simp), htl]
                by_cases h95 : c.toNat = 95
                · rw [if_pos (by omega), if_pos h95]
                  first | done | rfl
                · rw [if_neg (by omega), if_neg h95]
                  show (if c :: r = kwI then _ else if c :: r = kwO then _ else if c :: r = kwN then _ else _) = _
                  split
                  · rfl
                  · split
                    · rfl
                    · split <;> rfl
            · exfalso
              simp [wordB, lowB, uppB, digB] at hwc
              omega
        · exfalso
          simp [wordB, lowB, uppB, digB] at hwc
          omega

theorem reserved_val (l : List UInt8) : lex_Reserved.f ⟨l.toArray⟩ = some (decide (l = kwI ∨ l = kwO ∨ l = kwN)) := by
  have htl : (⟨l.toArray⟩ : ByteArray).toList = l := ByteArray.toList_mk l
  unfold lex_Reserved.f
  rw [htl]
  show (if l = kwI then some true else if l = kwO then some true else some (l == kwN)) = _
  by_cases h1 : l = kwI
  · rw [if_pos h1]; simp [h1]
  · rw [if_neg h1]
    by_cases h2 : l = kwO
    · rw [if_pos h2]; simp [h2]
    · rw [if_neg h2]
      simp only [h1, h2, false_or]
      by_cases h3 : l = kwN <;> simp [h3]

theorem reserved_kind (l : List UInt8) (h : kindF l ≠ 0) : decide (l = kwI ∨ l = kwO ∨ l = kwN) = decide (5 ≤ kindF l) := by
  rw [decide_eq_decide]
  constructor
  · rintro (rfl | rfl | rfl) <;> decide
  · intro h5
    unfold kindF at h5
    split at h5
    · omega
    · split at h5
      · omega
      · split at h5
        · split at h5
          · split at h5 <;> omega
          · split at h5
            · omega
            · split at h5
              · omega
              · split at h5
                · rename_i h; exact .inl h
                · split at h5
                  · rename_i h; exact .inr (.inl h)
                  · split at h5
                    · rename_i h; exact .inr (.inr h)
                    · omega
        · omega

theorem wrun_len (num : Bool) : ∀ (m : Nat) (l : List UInt8), (wrun num m l).length ≤ m ∧ (wrun num m l).length ≤ l.length ∧ wrun num m l = l.take (wrun num m l).length
  | 0, _ => ⟨Nat.le_refl _, Nat.zero_le _, rfl⟩
  | _ + 1, [] => ⟨Nat.zero_le _, Nat.le_refl _, rfl⟩
  | m + 1, c :: r => by
    obtain ⟨h1, h2, h3⟩ := wrun_len num m r
    unfold wrun
    split
    · refine ⟨by simp; omega, by simp; omega, ?_⟩
      rw [List.length_cons, List.take_succ_cons, ← h3]
    · exact ⟨Nat.zero_le _, Nat.zero_le _, rfl⟩
end Go.Proofs.Ytdodajpiidkglaa.K
