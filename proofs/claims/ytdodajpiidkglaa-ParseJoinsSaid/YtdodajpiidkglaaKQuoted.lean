/- lex.quoted: the walk. The string from behind its first quote is read as 'qd' says; nothing that was there is changed. Condition: the text is no longer than a string may be. -/
import Derived.Test.YtdodajpiidkglaaKBase
import Derived.Test.YtdodajpiidkglaaKLexPure
import Derived.Test.YtdodajpiidkglaaGLex
namespace Go.Proofs.Ytdodajpiidkglaa.K
open Go.RowKit Go.Proofs.YtdodajpiidkglaaW.PrintWords Go.Proofs.YtdodajpiidkglaaW.PrintLast Go.Proofs.YtdodajpiidkglaaW.PrintMore Go.Proofs.Ytdodajpiidkglaa.PAll
set_option linter.unusedVariables false
set_option linter.unusedSimpArgs false

def ints (l : List UInt8) : List Int := l.map fun c => (c.toNat : Int)
theorem ints_len (l : List UInt8) : (ints l).length = l.length := by simp [ints]
theorem ints_snoc (l : List UInt8) (c : UInt8) : ints (l ++ [c]) = ints l ++ [(c.toNat : Int)] := by simp [ints]
theorem str_ints (l : List UInt8) : strOfNums (ints l) = ⟨l.toArray⟩ := by
  unfold strOfNums ints
  rw [List.map_map, show ((fun n : Int => UInt8.ofNat n.toNat) ∘ fun c : UInt8 => (c.toNat : Int)) = id from funext fun c => by simp, List.map_id]
theorem half_vals : ∀ n : Nat, n < 256 → lex_half.f 1 (n : Int) = some (match hexv (UInt8.ofNat n) with | some v => (v : Int) | none => -1) := by decide +kernel
theorem half_val (c : UInt8) : lex_half.f 1 (c.toNat : Int) = some (match hexv c with | some v => (v : Int) | none => -1) := by
  have h := half_vals c.toNat c.toNat_lt
  rwa [show UInt8.ofNat c.toNat = c from by simp] at h

def QF (s : ByteArray) (i : Int) (v : Value) (u : Nat → Value) : Act := ⟨#[Value.string s, .int .i64 i, u 2, u 3, u 4, u 5, u 6, v, u 8, u 9, u 10, u 11, u 12, u 13, u 14, u 15, u 16, u 17, u 18, u 19, u 20, u 21, u 22, u 23, u 24, u 25, u 26, u 27, u 28, u 29, u 30, u 31, u 32, u 33, u 34, u 35, u 36, u 37, u 38, u 39, u 40, u 41, u 42, u 43, u 44, u 45, u 46, u 47, u 48, u 49, u 50, u 51, u 52, u 53, u 54, u 55, u 56, u 57, u 58, u 59, u 60, u 61, u 62, u 63, u 64, u 65, u 66, u 67, u 68, u 69, u 70, u 71, u 72, u 73, u 74, u 75, u 76, u 77, u 78, u 79, u 80, u 81, u 82, u 83, u 84, u 85, u 86, u 87, u 88, u 89, u 90, u 91, u 92, u 93, u 94, u 95, u 96, u 97, u 98, u 99, u 100, u 101, u 102, u 103, u 104, u 105, u 106, u 107, u 108, u 109, u 110, u 111, u 112, u 113, u 114, u 115, u 116, u 117, u 118, u 119, u 120, u 121, u 122, u 123, u 124, u 125, u 126, u 127, u 128, u 129], []⟩

def QI (s : ByteArray) (w : World) (q : List UInt8 × Nat × Bool) (l n : Nat) (a : Act) (w' : World) : Prop :=
  ∃ (i : Nat) (acc : List UInt8) (v : Value), (∃ u, a = QF s i v u) ∧ i ≤ s.size ∧ n = s.size - i ∧ l ≤ 2 ∧
    Aside0 (acc.length ≤ 1024 ∧ (l ≠ 0 → acc.length < 1024)) ∧ Aside0 (qd l 0 (from_ s i) i acc = q) ∧
    Aside0 (Kd.R (Kd.int .u8) 5 w' w.heap.size (fun _ => True) v (ints acc)) ∧ Aside0 (Below w.heap.size w w')

set_option maxHeartbeats 8000000 in
set_option maxRecDepth 100000 in
theorem quoted_calls (s : ByteArray) (i : Nat) (hs : s.size ≤ 140737488355328) (hi : i ≤ s.size) (w : World) :
    Calls Try.prog 91 #[.string s, .int .i64 i] w fun e w' =>
      e = .returned (.tuple #[.string ⟨(qd 0 0 (from_ s i) i []).1.toArray⟩, .int .i64 ((qd 0 0 (from_ s i) i []).2.1 : Int), .bool (qd 0 0 (from_ s i) i []).2.2]) ∧ Below w.heap.size w w' := by
  generalize hq : qd 0 0 (from_ s i) i [] = q
  have Hq := Aside0.mk hq
  clear hq
  go_enter Try.func91, Try.ntmps91
  go_wp2
  refine wp_scope_labels (QI s w q) ?first ?pass
  case first =>
    intro J hJ hP
    have HP := Aside0.mk hP
    clear hP hJ
    go_wp2
    go_step3
    go_step
    go_step
    refine HP.out 0 (s.size - i) _ _ _ ?hI rfl
    case hI =>
      refine ⟨i, [], _, ex_frame _ (QF s i _) rfl, hi, rfl, by omega, ⟨by simp⟩, Hq, ⟨?_⟩, ⟨?_⟩⟩
      · refine ⟨fun _ _ => trivial, [], ⟨rfl, .inr ⟨w.heap.size, 0, #[], rfl, Nat.le_refl _, heap_alloc_new w _, Nat.le_refl _, by decide, rfl, rfl⟩⟩, Reps.none _ _⟩
      · exact (Below.refl _ _).alloc (Nat.le_refl _) _
  case pass =>
    rintro l n a w1 ⟨j, acc, v, ⟨u, rfl⟩, hj, rfl, hl, HL, HQ, HR, HB⟩
    obtain ⟨A, cc, rfl⟩ := Kd.R_slice HR.out
    have hsz : s.size ≤ 9223372036854775807 := by omega
    have hal : (ints acc).length ≤ 1024 := by have := HL.out.1; simpa [ints] using this
    obtain rfl | rfl | rfl : l = 0 ∨ l = 1 ∨ l = 2 := by omega

    · refine ⟨_, rfl, fun J hJ0 => ?_⟩
      have hJ := Aside0.mk hJ0
      clear hJ0
      unfold QF
      by_cases he : j = s.size
      · subst he
        have hQ := HQ.out
        rw [from_end s s.size (Nat.le_refl _)] at hQ
        replace hQ : (([] : List UInt8), s.size, false) = q := by rw [← hQ]; simp [qd]
        have HQ2 := Aside0.mk hQ.symm
        clear hQ HQ
        go_wp2
        rw [jumps_ret]
        go_ret3
        exact ⟨by rw [HQ2.out]; rfl, HB.out⟩
      have hlt : j < s.size := by omega
      obtain ⟨c, hc, hb⟩ := from_cons s j hlt
      have hx : ∀ h : j < s.size, ((s[j]'h).toNat : Int) = (c.toNat : Int) := fun h => (bt_at s (j : Int) h).trans hb
      have hjb : ((j : Int) == (s.size : Int)) = false := beq_eq_false_iff_ne.2 (by omega)
      have hcl := c.toNat_lt
      clear hb
      have hQ := HQ.out
      rw [hc] at hQ
      clear hc
      by_cases h34 : c.toNat = 34
      · replace hQ : (acc, j + 1, true) = q := by rw [← hQ]; simp [qd, h34]
        have hcv := own_string (P := Try.prog) Try.underlying127 Try.underlying5 Try.underlying9 (Kd.own_of_R HR.out)
        rw [str_ints] at hcv
        have c34 : ((c.toNat : Int) == 34) = true := beq_iff_eq.2 (by omega)
        have HQ2 := Aside0.mk hQ.symm
        clear hQ HQ
        go_wp2
        rw [jumps_ret]
        go_ret3
        exact ⟨by rw [HQ2.out]; rfl, HB.out⟩
      have c34 : ((c.toNat : Int) == 34) = false := beq_eq_false_iff_ne.2 (by omega)
      by_cases hfull : acc.length = 1024
      · replace hQ : (([] : List UInt8), j, false) = q := by rw [← hQ]; simp [qd, h34, hfull]
        have cf : (((ints acc).length : Int) == 1024) = true := beq_iff_eq.2 (by rw [ints_len]; omega)
        have HQ2 := Aside0.mk hQ.symm
        clear hQ HQ
        go_wp2
        rw [jumps_ret]
        go_ret3
        exact ⟨by rw [HQ2.out]; rfl, HB.out⟩
      have cf : (((ints acc).length : Int) == 1024) = false := beq_eq_false_iff_ne.2 (by rw [ints_len]; omega)
      have hal2 : (ints acc).length < 1024 := by rw [ints_len] at hal ⊢; omega
      by_cases h32 : c.toNat < 32
      · replace hQ : (([] : List UInt8), j, false) = q := by rw [← hQ]; simp [qd, h34, h32]
        have c32 : decide ((c.toNat : Int) < 32) = true := decide_eq_true (by omega)
        have HQ2 := Aside0.mk hQ.symm
        clear hQ HQ
        go_wp2
        rw [jumps_ret]
        go_ret3
        exact ⟨by rw [HQ2.out]; rfl, HB.out⟩
      have c32 : decide ((c.toNat : Int) < 32) = false := decide_eq_false (by omega)
      by_cases h126 : 126 < c.toNat
      · replace hQ : (([] : List UInt8), j, false) = q := by rw [← hQ]; simp [qd, h34, h126]
        have c126 : decide ((126 : Int) < (c.toNat : Int)) = true := decide_eq_true (by omega)
        have HQ2 := Aside0.mk hQ.symm
        clear hQ HQ
        go_wp2
        rw [jumps_ret]
        go_ret3
        exact ⟨by rw [HQ2.out]; rfl, HB.out⟩
      have c126 : decide ((126 : Int) < (c.toNat : Int)) = false := decide_eq_false (by omega)
      by_cases h92 : c.toNat = 92
      · replace hQ : qd 1 0 (from_ s (j + 1)) (j + 1) acc = q := by rw [← hQ]; simp [qd, h34, hfull, h32, h126, h92]
        have c92 : ((c.toNat : Int) == 92) = true := beq_iff_eq.2 (by omega)
        have HLn : acc.length ≤ 1024 ∧ (1 ≠ 0 → acc.length < 1024) := ⟨HL.out.1, fun _ => by rw [ints_len] at hal2; exact hal2⟩
        have HQ2 := Aside0.mk hQ
        clear hQ HQ
        go_wp2
        have hQ := HQ2.out
        go_step3
        show J 1 _ _
        exact hJ.out 1 _ _ _ (by omega) ⟨j + 1, acc, _, ex_frame _ (QF s _ _) rfl, by omega, rfl, by omega, ⟨HLn⟩, ⟨hQ⟩, HR, HB⟩
      have c92 : ((c.toNat : Int) == 92) = false := beq_eq_false_iff_ne.2 (by omega)
      replace hQ : qd 0 0 (from_ s (j + 1)) (j + 1) (acc ++ [c]) = q := by rw [← hQ]; simp [qd, h34, hfull, h32, h126, h92]
      have HLn : (acc ++ [c]).length ≤ 1024 ∧ (0 ≠ 0 → (acc ++ [c]).length < 1024) := ⟨by rw [ints_len] at hal2; simp; omega, fun h => absurd rfl h⟩
      have HQ2 := Aside0.mk hQ
      clear hQ HQ
      go_wp2_with (at_builtin; refine Kd.R_append (Kd.int .u8) (w0 := w) w.heap.size rfl (.tmp 45) (.tmp 49) 127 5 (.int .u8 0) 1 rfl Try.underlying127 info5 rfl (by decide) (by omega) (.slice A (ints acc).length cc) (ints acc) (c.toNat : Int) [.int .u8 (c.toNat : Int)] (fun _ => True) (fun _ => False) rfl rfl ?aP (fun _ hk => hk.elim) ?aF ?aO ?aB ?aS ?aL ?_; (case aP => exact rfl); (case aF => exact (fun _ _ => trivial)); (case aO => (with_reducible repeat (first | apply Kd.R_alloc | apply Kd.R_drewN | apply Kd.R_drew)); exact HR.out); (case aB => repeat (first | exact HB.out | apply pw_below_drewN | apply below_drew1)); (case aS => have hz := HB.out.size; simpa using hz); (case aL => omega); intro v2 w2 ho hb2 hg hat; have HR2 := Aside0.mk ho; have HB2 := Aside0.mk hb2; clear ho hb2 hg hat HR HB)
      have HR3 := Aside0.mk (show Kd.R (Kd.int .u8) 5 _ w.heap.size (fun _ => True) _ (ints (acc ++ [c])) from by rw [ints_snoc]; exact HR2.out)
      have hQ := HQ2.out
      go_step3
      show J 0 _ _
      exact hJ.out 0 _ _ _ (by omega) ⟨j + 1, acc ++ [c], _, ex_frame _ (QF s _ _) rfl, by omega, rfl, by omega, ⟨HLn⟩, ⟨hQ⟩, HR3, HB2⟩
    · refine ⟨_, rfl, fun J hJ0 => ?_⟩
      have hJ := Aside0.mk hJ0
      clear hJ0
      unfold QF
      by_cases he : j = s.size
      · subst he
        have hQ := HQ.out
        rw [from_end s s.size (Nat.le_refl _)] at hQ
        replace hQ : (([] : List UInt8), s.size, false) = q := by rw [← hQ]; simp [qd]
        have HQ2 := Aside0.mk hQ.symm
        clear hQ HQ
        go_wp2
        rw [jumps_ret]
        go_ret3
        exact ⟨by rw [HQ2.out]; rfl, HB.out⟩
      have hlt : j < s.size := by omega
      obtain ⟨c, hc, hb⟩ := from_cons s j hlt
      have hx : ∀ h : j < s.size, ((s[j]'h).toNat : Int) = (c.toNat : Int) := fun h => (bt_at s (j : Int) h).trans hb
      have hjb : ((j : Int) == (s.size : Int)) = false := beq_eq_false_iff_ne.2 (by omega)
      have hcl := c.toNat_lt
      clear hb
      have hQ := HQ.out
      rw [hc] at hQ
      clear hc
      have hal2 : (ints acc).length < 1024 := by rw [ints_len]; exact HL.out.2 (by decide)
      by_cases h34 : c.toNat = 34
      · have c34 : ((c.toNat : Int) == 34) = true := beq_iff_eq.2 (by omega)
        replace hQ : qd 0 0 (from_ s (j + 1)) (j + 1) (acc ++ [c]) = q := by rw [← hQ]; simp [qd, h34]
        have HLn : (acc ++ [c]).length ≤ 1024 ∧ (0 ≠ 0 → (acc ++ [c]).length < 1024) := ⟨by rw [ints_len] at hal2; simp; omega, fun h => absurd rfl h⟩
        have HQ2 := Aside0.mk hQ
        clear hQ HQ
        go_wp2_with (at_builtin; refine Kd.R_append (Kd.int .u8) (w0 := w) w.heap.size rfl (.tmp 65) (.tmp 69) 127 5 (.int .u8 0) 1 rfl Try.underlying127 info5 rfl (by decide) (by omega) (.slice A (ints acc).length cc) (ints acc) (34 : Int) [.int .u8 (34 : Int)] (fun _ => True) (fun _ => False) rfl rfl ?aP (fun _ hk => hk.elim) ?aF ?aO ?aB ?aS ?aL ?_; (case aP => exact rfl); (case aF => exact (fun _ _ => trivial)); (case aO => (with_reducible repeat (first | apply Kd.R_alloc | apply Kd.R_drewN | apply Kd.R_drew)); exact HR.out); (case aB => repeat (first | exact HB.out | apply pw_below_drewN | apply below_drew1)); (case aS => have hz := HB.out.size; simpa using hz); (case aL => omega); intro v2 w2 ho hb2 hg hat; have HR2 := Aside0.mk ho; have HB2 := Aside0.mk hb2; clear ho hb2 hg hat HR HB)
        have HR3 := Aside0.mk (show Kd.R (Kd.int .u8) 5 _ w.heap.size (fun _ => True) _ (ints (acc ++ [c])) from by rw [ints_snoc, show (c.toNat : Int) = 34 from by omega]; exact HR2.out)
        have hQ := HQ2.out
        go_step3
        show J 0 _ _
        exact hJ.out 0 _ _ _ (by omega) ⟨j + 1, acc ++ [c], _, ex_frame _ (QF s _ _) rfl, by omega, rfl, by omega, ⟨HLn⟩, ⟨hQ⟩, HR3, HB2⟩
      by_cases h92 : c.toNat = 92
      · have c34 : ((c.toNat : Int) == 34) = false := beq_eq_false_iff_ne.2 (by omega)
        have c92 : ((c.toNat : Int) == 92) = true := beq_iff_eq.2 (by omega)
        replace hQ : qd 0 0 (from_ s (j + 1)) (j + 1) (acc ++ [c]) = q := by rw [← hQ]; simp [qd, h92]
        have HLn : (acc ++ [c]).length ≤ 1024 ∧ (0 ≠ 0 → (acc ++ [c]).length < 1024) := ⟨by rw [ints_len] at hal2; simp; omega, fun h => absurd rfl h⟩
        have HQ2 := Aside0.mk hQ
        clear hQ HQ
        go_wp2_with (at_builtin; refine Kd.R_append (Kd.int .u8) (w0 := w) w.heap.size rfl (.tmp 65) (.tmp 69) 127 5 (.int .u8 0) 1 rfl Try.underlying127 info5 rfl (by decide) (by omega) (.slice A (ints acc).length cc) (ints acc) (92 : Int) [.int .u8 (92 : Int)] (fun _ => True) (fun _ => False) rfl rfl ?aP (fun _ hk => hk.elim) ?aF ?aO ?aB ?aS ?aL ?_; (case aP => exact rfl); (case aF => exact (fun _ _ => trivial)); (case aO => (with_reducible repeat (first | apply Kd.R_alloc | apply Kd.R_drewN | apply Kd.R_drew)); exact HR.out); (case aB => repeat (first | exact HB.out | apply pw_below_drewN | apply below_drew1)); (case aS => have hz := HB.out.size; simpa using hz); (case aL => omega); intro v2 w2 ho hb2 hg hat; have HR2 := Aside0.mk ho; have HB2 := Aside0.mk hb2; clear ho hb2 hg hat HR HB)
        have HR3 := Aside0.mk (show Kd.R (Kd.int .u8) 5 _ w.heap.size (fun _ => True) _ (ints (acc ++ [c])) from by rw [ints_snoc, show (c.toNat : Int) = 92 from by omega]; exact HR2.out)
        have hQ := HQ2.out
        go_step3
        show J 0 _ _
        exact hJ.out 0 _ _ _ (by omega) ⟨j + 1, acc ++ [c], _, ex_frame _ (QF s _ _) rfl, by omega, rfl, by omega, ⟨HLn⟩, ⟨hQ⟩, HR3, HB2⟩
      by_cases h110 : c.toNat = 110
      · have c34 : ((c.toNat : Int) == 34) = false := beq_eq_false_iff_ne.2 (by omega)
        have c92 : ((c.toNat : Int) == 92) = false := beq_eq_false_iff_ne.2 (by omega)
        have c110 : ((c.toNat : Int) == 110) = true := beq_iff_eq.2 (by omega)
        replace hQ : qd 0 0 (from_ s (j + 1)) (j + 1) (acc ++ [10]) = q := by rw [← hQ]; simp [qd, h110]
        have HLn : (acc ++ [10]).length ≤ 1024 ∧ (0 ≠ 0 → (acc ++ [10]).length < 1024) := ⟨by rw [ints_len] at hal2; simp; omega, fun h => absurd rfl h⟩
        have HQ2 := Aside0.mk hQ
        clear hQ HQ
        go_wp2_with (at_builtin; refine Kd.R_append (Kd.int .u8) (w0 := w) w.heap.size rfl (.tmp 73) (.tmp 74) 127 5 (.int .u8 0) 1 rfl Try.underlying127 info5 rfl (by decide) (by omega) (.slice A (ints acc).length cc) (ints acc) (10 : Int) [.int .u8 (10 : Int)] (fun _ => True) (fun _ => False) rfl rfl ?aP (fun _ hk => hk.elim) ?aF ?aO ?aB ?aS ?aL ?_; (case aP => exact rfl); (case aF => exact (fun _ _ => trivial)); (case aO => (with_reducible repeat (first | apply Kd.R_alloc | apply Kd.R_drewN | apply Kd.R_drew)); exact HR.out); (case aB => repeat (first | exact HB.out | apply pw_below_drewN | apply below_drew1)); (case aS => have hz := HB.out.size; simpa using hz); (case aL => omega); intro v2 w2 ho hb2 hg hat; have HR2 := Aside0.mk ho; have HB2 := Aside0.mk hb2; clear ho hb2 hg hat HR HB)
        have HR3 := Aside0.mk (show Kd.R (Kd.int .u8) 5 _ w.heap.size (fun _ => True) _ (ints (acc ++ [10])) from by rw [ints_snoc]; exact HR2.out)
        have hQ := HQ2.out
        go_step3
        show J 0 _ _
        exact hJ.out 0 _ _ _ (by omega) ⟨j + 1, acc ++ [10], _, ex_frame _ (QF s _ _) rfl, by omega, rfl, by omega, ⟨HLn⟩, ⟨hQ⟩, HR3, HB2⟩
      by_cases h116 : c.toNat = 116
      · have c34 : ((c.toNat : Int) == 34) = false := beq_eq_false_iff_ne.2 (by omega)
        have c92 : ((c.toNat : Int) == 92) = false := beq_eq_false_iff_ne.2 (by omega)
        have c110 : ((c.toNat : Int) == 110) = false := beq_eq_false_iff_ne.2 (by omega)
        have c116 : ((c.toNat : Int) == 116) = true := beq_iff_eq.2 (by omega)
        replace hQ : qd 0 0 (from_ s (j + 1)) (j + 1) (acc ++ [9]) = q := by rw [← hQ]; simp [qd, h116]
        have HLn : (acc ++ [9]).length ≤ 1024 ∧ (0 ≠ 0 → (acc ++ [9]).length < 1024) := ⟨by rw [ints_len] at hal2; simp; omega, fun h => absurd rfl h⟩
        have HQ2 := Aside0.mk hQ
        clear hQ HQ
        go_wp2_with (at_builtin; refine Kd.R_append (Kd.int .u8) (w0 := w) w.heap.size rfl (.tmp 78) (.tmp 79) 127 5 (.int .u8 0) 1 rfl Try.underlying127 info5 rfl (by decide) (by omega) (.slice A (ints acc).length cc) (ints acc) (9 : Int) [.int .u8 (9 : Int)] (fun _ => True) (fun _ => False) rfl rfl ?aP (fun _ hk => hk.elim) ?aF ?aO ?aB ?aS ?aL ?_; (case aP => exact rfl); (case aF => exact (fun _ _ => trivial)); (case aO => (with_reducible repeat (first | apply Kd.R_alloc | apply Kd.R_drewN | apply Kd.R_drew)); exact HR.out); (case aB => repeat (first | exact HB.out | apply pw_below_drewN | apply below_drew1)); (case aS => have hz := HB.out.size; simpa using hz); (case aL => omega); intro v2 w2 ho hb2 hg hat; have HR2 := Aside0.mk ho; have HB2 := Aside0.mk hb2; clear ho hb2 hg hat HR HB)
        have HR3 := Aside0.mk (show Kd.R (Kd.int .u8) 5 _ w.heap.size (fun _ => True) _ (ints (acc ++ [9])) from by rw [ints_snoc]; exact HR2.out)
        have hQ := HQ2.out
        go_step3
        show J 0 _ _
        exact hJ.out 0 _ _ _ (by omega) ⟨j + 1, acc ++ [9], _, ex_frame _ (QF s _ _) rfl, by omega, rfl, by omega, ⟨HLn⟩, ⟨hQ⟩, HR3, HB2⟩
      by_cases h120 : c.toNat = 120
      · have c34 : ((c.toNat : Int) == 34) = false := beq_eq_false_iff_ne.2 (by omega)
        have c92 : ((c.toNat : Int) == 92) = false := beq_eq_false_iff_ne.2 (by omega)
        have c110 : ((c.toNat : Int) == 110) = false := beq_eq_false_iff_ne.2 (by omega)
        have c116 : ((c.toNat : Int) == 116) = false := beq_eq_false_iff_ne.2 (by omega)
        have c120 : ((c.toNat : Int) == 120) = true := beq_iff_eq.2 (by omega)
        replace hQ : qd 2 0 (from_ s (j + 1)) (j + 1) acc = q := by rw [← hQ]; simp [qd, h120]
        have HLn : acc.length ≤ 1024 ∧ (2 ≠ 0 → acc.length < 1024) := ⟨HL.out.1, fun _ => by rw [ints_len] at hal2; exact hal2⟩
        have HQ2 := Aside0.mk hQ
        clear hQ HQ
        go_wp2
        have hQ := HQ2.out
        go_step3
        show J 2 _ _
        exact hJ.out 2 _ _ _ (by omega) ⟨j + 1, acc, _, ex_frame _ (QF s _ _) rfl, by omega, rfl, by omega, ⟨HLn⟩, ⟨hQ⟩, HR, HB⟩
      have c34 : ((c.toNat : Int) == 34) = false := beq_eq_false_iff_ne.2 (by omega)
      have c92 : ((c.toNat : Int) == 92) = false := beq_eq_false_iff_ne.2 (by omega)
      have c110 : ((c.toNat : Int) == 110) = false := beq_eq_false_iff_ne.2 (by omega)
      have c116 : ((c.toNat : Int) == 116) = false := beq_eq_false_iff_ne.2 (by omega)
      have c120 : ((c.toNat : Int) == 120) = false := beq_eq_false_iff_ne.2 (by omega)
      replace hQ : (([] : List UInt8), j, false) = q := by rw [← hQ]; simp [qd, h34, h92, h110, h116, h120]
      have HQ2 := Aside0.mk hQ.symm
      clear hQ HQ
      go_wp2
      rw [jumps_ret]
      go_ret3
      exact ⟨by rw [HQ2.out]; rfl, HB.out⟩
    · refine ⟨_, rfl, fun J hJ0 => ?_⟩
      have hJ := Aside0.mk hJ0
      clear hJ0
      unfold QF
      by_cases he : j = s.size
      · subst he
        have hQ := HQ.out
        rw [from_end s s.size (Nat.le_refl _)] at hQ
        replace hQ : (([] : List UInt8), s.size, false) = q := by rw [← hQ]; simp [qd]
        have HQ2 := Aside0.mk hQ.symm
        clear hQ HQ
        go_wp2
        rw [jumps_ret]
        go_ret3
        exact ⟨by rw [HQ2.out]; rfl, HB.out⟩
      have hlt : j < s.size := by omega
      obtain ⟨c, hc, hb⟩ := from_cons s j hlt
      have hx : ∀ h : j < s.size, ((s[j]'h).toNat : Int) = (c.toNat : Int) := fun h => (bt_at s (j : Int) h).trans hb
      have hjb : ((j : Int) == (s.size : Int)) = false := beq_eq_false_iff_ne.2 (by omega)
      have hcl := c.toNat_lt
      clear hb
      have hQ := HQ.out
      rw [hc] at hQ
      clear hc
      have hal2 : (ints acc).length < 1024 := by rw [ints_len]; exact HL.out.2 (by decide)
      have hv := half_val c
      cases h1 : hexv c with
      | none =>
        rw [h1] at hv
        have HV := Aside0.mk hv
        clear hv
        replace hQ : (([] : List UInt8), j, false) = q := by rw [← hQ]; simp [qd, h1]
        have HQ2 := Aside0.mk hQ.symm
        clear hQ HQ h1
        go_wp2_with (go_at_call 104; (with_reducible refine (lex_half.calls 1 (c.toNat : Int) (-1) _ HV.out).mono ?_); rintro e w' ⟨rfl, ⟨nd, rfl⟩⟩)
        rw [jumps_ret]
        go_ret3
        exact ⟨by rw [HQ2.out]; rfl, by repeat (first | exact HB.out | apply pw_below_drewN | apply below_drew1)⟩
      | some d1 =>
        have hd1 := hexv_lt h1
        rw [h1] at hv
        have HV := Aside0.mk hv
        clear hv
        replace hQ : qd 3 d1 (from_ s (j + 1)) (j + 1) acc = q := by rw [← hQ]; simp [qd, h1]
        have cd1 : decide ((d1 : Int) < 0) = false := decide_eq_false (by omega)
        by_cases he2 : j + 1 = s.size
        · rw [he2, from_end s s.size (Nat.le_refl _)] at hQ
          replace hQ : (([] : List UInt8), s.size, false) = q := by rw [← hQ]; simp [qd]
          have HQ2 := Aside0.mk hQ.symm
          clear hQ HQ h1
          have hjb2 : ((j : Int) + 1 == (s.size : Int)) = true := beq_iff_eq.2 (by omega)
          have HE := Aside0.mk he2
          clear he2
          go_wp2_with (go_at_call 104; (with_reducible refine (lex_half.calls 1 (c.toNat : Int) (d1 : Int) _ HV.out).mono ?_); rintro e w' ⟨rfl, ⟨nd, rfl⟩⟩)
          rw [jumps_ret]
          go_ret3
          exact ⟨by rw [HQ2.out, ← HE.out]; rfl, by repeat (first | exact HB.out | apply pw_below_drewN | apply below_drew1)⟩
        have hlt2 : j + 1 < s.size := by omega
        obtain ⟨c2, hc2, hb2⟩ := from_cons s (j + 1) hlt2
        have hx2 : ∀ h : j + 1 < s.size, ((s[j + 1]'h).toNat : Int) = (c2.toNat : Int) := fun h => (bt_at s ((j + 1 : Nat) : Int) h).trans hb2
        have hjb2 : ((j : Int) + 1 == (s.size : Int)) = false := beq_eq_false_iff_ne.2 (by omega)
        have htn : ((j : Int) + 1).toNat = j + 1 := by omega
        have hcl2 := c2.toNat_lt
        clear hb2
        rw [hc2] at hQ
        clear hc2
        have hv2 := half_val c2
        cases h2 : hexv c2 with
        | none =>
          rw [h2] at hv2
          have HV2 := Aside0.mk hv2
          clear hv2
          replace hQ : (([] : List UInt8), j + 1, false) = q := by rw [← hQ]; simp [qd, h2]
          have HQ2 := Aside0.mk hQ.symm
          clear hQ HQ h1 h2
          go_wp2_with (first | (go_at_call 104; (with_reducible refine (lex_half.calls 1 (c.toNat : Int) (d1 : Int) _ HV.out).mono ?_); rintro e w' ⟨rfl, ⟨nd, rfl⟩⟩) | (go_at_call 104; (with_reducible refine (lex_half.calls 1 (c2.toNat : Int) (-1) _ HV2.out).mono ?_); rintro e w' ⟨rfl, ⟨nd, rfl⟩⟩))
          rw [jumps_ret]
          go_ret3
          exact ⟨by rw [HQ2.out]; rfl, by repeat (first | exact HB.out | apply pw_below_drewN | apply below_drew1)⟩
        | some d2 =>
          have hd2 := hexv_lt h2
          rw [h2] at hv2
          have HV2 := Aside0.mk hv2
          clear hv2
          replace hQ : qd 0 0 (from_ s (j + 1 + 1)) (j + 1 + 1) (acc ++ [UInt8.ofNat (d1 * 16 + d2)]) = q := by rw [← hQ]; simp [qd, h2]
          have HLn : (acc ++ [UInt8.ofNat (d1 * 16 + d2)]).length ≤ 1024 ∧ (0 ≠ 0 → (acc ++ [UInt8.ofNat (d1 * 16 + d2)]).length < 1024) := ⟨by rw [ints_len] at hal2; simp; omega, fun h => absurd rfl h⟩
          have cd2 : decide ((d2 : Int) < 0) = false := decide_eq_false (by omega)
          have HQ2 := Aside0.mk hQ
          clear hQ HQ h1 h2
          go_wp2_with (first | (go_at_call 104; (with_reducible refine (lex_half.calls 1 (c.toNat : Int) (d1 : Int) _ HV.out).mono ?_); rintro e w' ⟨rfl, ⟨nd, rfl⟩⟩) | (go_at_call 104; (with_reducible refine (lex_half.calls 1 (c2.toNat : Int) ((d2 : Int)) _ HV2.out).mono ?_); rintro e w' ⟨rfl, ⟨nd, rfl⟩⟩) | (at_builtin; refine Kd.R_append (Kd.int .u8) (w0 := w) w.heap.size rfl (.tmp 117) (.tmp 126) 127 5 (.int .u8 0) 1 rfl Try.underlying127 info5 rfl (by decide) (by omega) (.slice A (ints acc).length cc) (ints acc) ((d1 : Int) * 16 + (d2 : Int)) [.int .u8 ((d1 : Int) * 16 + (d2 : Int))] (fun _ => True) (fun _ => False) rfl rfl ?aP (fun _ hk => hk.elim) ?aF ?aO ?aB ?aS ?aL ?_; (case aP => exact rfl); (case aF => exact (fun _ _ => trivial)); (case aO => (with_reducible repeat (first | apply Kd.R_alloc | apply Kd.R_drewN | apply Kd.R_drew)); exact HR.out); (case aB => repeat (first | exact HB.out | apply pw_below_drewN | apply below_drew1)); (case aS => have hz := HB.out.size; simpa using hz); (case aL => omega); intro v2 w2 ho hb2 hg hat; have HR2 := Aside0.mk ho; have HB2 := Aside0.mk hb2; clear ho hb2 hg hat HR HB))
          have HR3 := Aside0.mk (show Kd.R (Kd.int .u8) 5 _ w.heap.size (fun _ => True) _ (ints (acc ++ [UInt8.ofNat (d1 * 16 + d2)])) from by rw [ints_snoc, show ((UInt8.ofNat (d1 * 16 + d2)).toNat : Int) = (d1 : Int) * 16 + (d2 : Int) from by rw [show (UInt8.ofNat (d1 * 16 + d2)).toNat = d1 * 16 + d2 from by rw [UInt8.toNat_ofNat']; omega]; omega]; exact HR2.out)
          have hQ := HQ2.out
          go_step3
          show J 0 _ _
          exact hJ.out 0 _ _ _ (by omega) ⟨j + 1 + 1, acc ++ [UInt8.ofNat (d1 * 16 + d2)], _, ex_frame _ (QF s _ _) rfl, by omega, rfl, by omega, ⟨HLn⟩, ⟨hQ⟩, HR3, HB2⟩
end Go.Proofs.Ytdodajpiidkglaa.K
