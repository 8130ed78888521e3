/- lex.next: the walk. The token that begins at a place is read as 'nextF' says; nothing that was there is changed. Condition: the text is no longer than a string may be. -/
import Derived.Test.YtdodajpiidkglaaKQuoted
import Derived.Test.YtdodajpiidkglaaKLexPure
import Derived.Deep.RegionWith
import Derived.BigRegion
import Derived.Lib.Strings
namespace Go.Proofs.Ytdodajpiidkglaa.K
open Go.RowKit Go.Proofs.YtdodajpiidkglaaW.PrintWords Go.Proofs.YtdodajpiidkglaaW.PrintLast Go.Proofs.YtdodajpiidkglaaW.PrintMore Go.Proofs.Ytdodajpiidkglaa.PAll
set_option linter.unusedVariables false
set_option linter.unusedSimpArgs false

theorem quoted_int (s : ByteArray) (i : Nat) (x : Int) (hs : s.size ≤ 140737488355328) (hi : i ≤ s.size) (hx : x = (i : Int)) (w : World) :
    Calls Try.prog 91 #[.string s, .int .i64 x] w fun e w' =>
      e = .returned (.tuple #[.string ⟨(qd 0 0 (from_ s i) i []).1.toArray⟩, .int .i64 ((qd 0 0 (from_ s i) i []).2.1 : Int), .bool (qd 0 0 (from_ s i) i []).2.2]) ∧ Below w.heap.size w w' := by
  subst hx
  exact quoted_calls s i hs hi w

/-- A token as a value. -/
def tokV (t : Tok) : Value := .agg #[.int .i64 (t.k : Int), .string t.t, .int .i64 (t.a : Int), .int .i64 (t.e : Int)]

theorem blk4_set {w : World} {g t : Nat} {c0 c1 c2 c3 : Value} (h : w.heap[g]? = some (.cells #[c0, c1, c2, c3] t (0, 0))) (u0 u1 u2 u3 : Value) :
    ((((w.setCell ⟨g, 0, none⟩ u0).setCell ⟨g, 1, none⟩ u1).setCell ⟨g, 2, none⟩ u2).setCell ⟨g, 3, none⟩ u3).heap[g]? = some (.cells #[u0, u1, u2, u3] t (0, 0)) :=
  blk_put (blk_put (blk_put (blk_put h 0 u0 rfl) 1 u1 rfl) 2 u2 rfl) 3 u3 rfl
theorem info71 : (Try.prog.info? 71).map (·.size) = some 4 := by kernel_rfl

def NextPost (s : ByteArray) (i : Nat) (w : World) (e : Ending) (w' : World) : Prop :=
  e = .returned (.tuple #[tokV (nextF (from_ s i) i).1, .bool (nextF (from_ s i) i).2]) ∧ Below w.heap.size w w'


set_option maxHeartbeats 4000000 in
set_option maxRecDepth 100000 in
theorem next_quote (s : ByteArray) (i : Nat) (hs : s.size ≤ 140737488355328) (hi : i < s.size) (c : UInt8) (hc : from_ s i = c :: from_ s (i + 1)) (hb : bt s (i : Int) = (c.toNat : Int)) (h34 : c.toNat = 34) (w : World) :
    Calls Try.prog 73 #[.string s, .int .i64 i] w (NextPost s i w) := by
  have hn : nextF (from_ s i) i = (⟨4, ⟨(qd 0 0 (from_ s (i + 1)) (i + 1) []).1.toArray⟩, i, (qd 0 0 (from_ s (i + 1)) (i + 1) []).2.1⟩, (qd 0 0 (from_ s (i + 1)) (i + 1) []).2.2) := by rw [hc]; simp only [nextF]; rw [if_pos h34]
  generalize hq : qd 0 0 (from_ s (i + 1)) (i + 1) [] = q at hn
  have HN := Aside0.mk hn
  have HQ := Aside0.mk hq
  clear hn hq hc
  have hsz : s.size ≤ 9223372036854775807 := by omega
  have hx : ∀ h : i < s.size, ((s[i]'h).toNat : Int) = (c.toNat : Int) := fun h => (bt_at s (i : Int) h).trans hb
  clear hb
  have c34 : ((c.toNat : Int) == 34) = true := beq_iff_eq.2 (by omega)
  go_enter Try.func73, Try.ntmps73
  go_wp2_with (go_at_call 91; (with_reducible refine (quoted_int s (i + 1) _ hs (by omega) (by omega) _).mono ?_); rintro e w2 ⟨rfl, hb⟩; rw [HQ.out]; have hz := blk_below (blk_new w _) hb; have hc0 := blk_cell hz 0; have hc1 := blk_cell hz 1; have hc2 := blk_cell hz 2; have hc3 := blk_cell hz 3; have hf0 := blk_frozen hz 0; have hf1 := blk_frozen hz 1; have hf2 := blk_frozen hz 2; have hf3 := blk_frozen hz 3; have HZ := Aside0.mk hz; have HB := Aside0.mk hb; clear hz hb)
  exact bodyPost_ret (results_ct rfl _ _ w.heap.size 71 _ (0, 0) _ rfl (blk4_set HZ.out _ _ _ _) Try.underlying71 rfl info71) rfl ⟨by rw [HN.out]; rfl, (((((((Below.refl _ _).alloc (Nat.le_refl _) _).trans (HB.out.mono (by simp))).setCell (Nat.le_refl _) _).setCell (Nat.le_refl _) _).setCell (Nat.le_refl _) _).setCell (Nat.le_refl _) _)⟩
def sgs : Value := .agg #[.string ⟨#[40]⟩, .string ⟨#[41]⟩, .string ⟨#[44]⟩, .string ⟨#[46]⟩, .string ⟨#[47]⟩, .string ⟨#[58, 45]⟩, .string ⟨#[33, 61]⟩]
theorem info136 : (Try.prog.info? 136).map (·.size) = some 7 := by kernel_rfl
theorem signs_calls (w : World) : Calls Try.prog 92 #[] w fun e w' => e = .returned sgs ∧ Below w.heap.size w w' := by
  go_enter Try.func92, Try.ntmps92
  go_wp2
  exact bodyPost_ret (results_single rfl (.cell w.heap.size 136 _ (0, 0) _ rfl (blk_new w _) Try.underlying136 rfl info136 .nil)) rfl ⟨rfl, (Below.refl _ _).alloc (Nat.le_refl _) _⟩
theorem from_extract (s : ByteArray) (i m : Nat) : s.extract i (i + m) = ⟨((from_ s i).take m).toArray⟩ := by
  have h := Go.Lib.extract_data s i (i + m)
  have h2 : (s.extract i (i + m)).data = ((from_ s i).take m).toArray := by
    rw [← Array.toArray_toList (xs := (s.extract i (i + m)).data), h]
    congr 1
    unfold from_
    first | rfl | (rw [List.take_drop]; done) | simp
  cases hq : s.extract i (i + m) with
  | mk d => rw [hq] at h2; simp only at h2; rw [h2]
theorem from_drop (s : ByteArray) (i m : Nat) : (from_ s i).drop m = from_ s (i + m) := List.drop_drop
theorem from_len (s : ByteArray) (i : Nat) : (from_ s i).length = s.size - i := (List.length_drop).trans (by rfl)
theorem wrun_go (num : Bool) (L : List UInt8) (m : Nat) (d : UInt8) (r : List UInt8) (hm : m < 64) (hd : L.drop m = d :: r) (h : wrun num 64 L = L.take m ++ wrun num (64 - m) (L.drop m))
    (hw : (wordB d.toNat && (!num || decide (d.toNat ≤ 57))) = true) : wrun num 64 L = L.take (m + 1) ++ wrun num (64 - (m + 1)) (L.drop (m + 1)) := by
  have hlt : m < L.length := by
    rcases Nat.lt_or_ge m L.length with h | h
    · exact h
    · rw [List.drop_eq_nil_of_le h] at hd; cases hd
  rw [List.drop_eq_getElem_cons hlt] at hd
  injection hd with h1 h2
  rw [h, List.take_succ_eq_append_getElem hlt, h1, h2, List.drop_eq_getElem_cons hlt, h1, h2, show 64 - m = (64 - (m + 1)) + 1 from by omega]
  simp only [wrun]
  rw [if_pos hw]
  simp
theorem wrun_end (num : Bool) (L : List UInt8) (m : Nat) (h : wrun num 64 L = L.take m ++ wrun num (64 - m) (L.drop m)) (hs : wrun num (64 - m) (L.drop m) = []) : wrun num 64 L = L.take m := by rw [h, hs, List.append_nil]

set_option maxHeartbeats 8000000 in
set_option maxRecDepth 100000 in
theorem next_rest (s : ByteArray) (i : Nat) (hs : s.size ≤ 140737488355328) (hi : i < s.size) (c : UInt8) (hc : from_ s i = c :: from_ s (i + 1)) (hb : bt s (i : Int) = (c.toNat : Int)) (h34 : c.toNat ≠ 34) (w : World) :
    Calls Try.prog 73 #[.string s, .int .i64 i] w (NextPost s i w) := by
  have hsz : s.size ≤ 9223372036854775807 := by omega
  have hx : ∀ h : i < s.size, ((s[i]'h).toNat : Int) = (c.toNat : Int) := fun h => (bt_at s (i : Int) h).trans hb
  have hcl := c.toNat_lt
  clear hb
  have c34 : ((c.toNat : Int) == 34) = false := beq_eq_false_iff_ne.2 (by omega)
  have HC := Aside0.mk hc
  clear hc
  go_enter Try.func73, Try.ntmps73
  go_wp2_with (go_at_call 92; (with_reducible refine (signs_calls _).mono ?_); rintro e w2 ⟨rfl, hb⟩; have HZ := Aside0.mk (blk_below (blk_new w _) hb); have HB := Aside0.mk (((Below.refl w.heap.size w).alloc (Nat.le_refl _) _).trans (hb.mono (by simp))); clear hb; unfold sgs)
  go_loopg [33] 7 (fun n v33 wc => ∃ k : Nat, k + n = 7 ∧ v33 = .int .i64 (k : Int) ∧ Aside0 (∀ j, j < k → ([40, 41, 44, 46, 47, 58, 33].getD j 0) ≠ c.toNat) ∧ Aside0 (wc.heap[w.heap.size]? = some (.cells #[.int .i64 0, .string ⟨#[]⟩, .int .i64 0, .int .i64 0] 71 (0, 0))) ∧ Aside0 (Below w.heap.size w wc))
  case atStart => exact ⟨0, rfl, rfl, ⟨fun j hj => absurd hj (by omega)⟩, HZ, HB⟩
  case round =>
    clear HZ HB
    obtain ⟨k, hk, rfl, HN, HZ, HB⟩ := hrel
    obtain rfl | rfl | rfl | rfl | rfl | rfl | rfl | rfl : k = 0 ∨ k = 1 ∨ k = 2 ∨ k = 3 ∨ k = 4 ∨ k = 5 ∨ k = 6 ∨ k = 7 := by omega
    · have ix : ∀ w, (Instr.index 136 (.agg #[.string ⟨#[40]⟩, .string ⟨#[41]⟩, .string ⟨#[44]⟩, .string ⟨#[46]⟩, .string ⟨#[47]⟩, .string ⟨#[58, 45]⟩, .string ⟨#[33, 61]⟩]) (.int .i64 0)).run Try.prog w = .ok (.string ⟨#[40]⟩) w := fun _ => by kernel_rfl
      have hsg : ((⟨#[40]⟩ : ByteArray)[0]'(by decide)).toNat = 40 := rfl
      by_cases hb : c.toNat = 40
      · have HNX := Aside0.mk (show nextF (from_ s i) i = (⟨8, ⟨#[]⟩, i, i + 1⟩, true) from by rw [HC.out]; simp [nextF, hb, sg1])
        have cb : ((c.toNat : Int) != 40) = false := bne_eq_false_iff_eq.2 (by omega)
        go_wp2
        go_quiet (fail)
        rename_i nq
        have HZ2 := Aside0.mk (blk_drewN HZ.out nq)
        have HB2 := Aside0.mk (show Below w.heap.size w (wr.drewN nq) from by repeat (first | exact HB.out | apply pw_below_drewN | apply below_drew1))
        generalize wr.drewN nq = w3 at HZ2 HB2 ⊢
        have hz := HZ2.out
        have hzl := blk_lt hz
        have hc0 := blk_cell hz 0
        have hc1 := blk_cell hz 1
        have hc2 := blk_cell hz 2
        have hc3 := blk_cell hz 3
        have hf0 := blk_frozen hz 0
        have hf1 := blk_frozen hz 1
        have hf2 := blk_frozen hz 2
        have hf3 := blk_frozen hz 3
        clear hz
        go_wp2
        exact bodyPost_ret (results_ct rfl _ _ w.heap.size 71 _ (0, 0) _ rfl (blk_alloc (blk4_set HZ2.out _ _ _ _) _) Try.underlying71 rfl info71) rfl ⟨by rw [HNX.out]; rfl, (((((HB2.out.setCell (Nat.le_refl _) _).setCell (Nat.le_refl _) _).setCell (Nat.le_refl _) _).setCell (Nat.le_refl _) _).alloc (by have := HB2.out.size; simpa using this) _)⟩
      have cb : ((c.toNat : Int) != 40) = true := bne_iff_ne.2 (by omega)
      go_wp2
      go_quiet (fail)
      rename_i nq
      have HZ2 := Aside0.mk (blk_drewN HZ.out nq)
      have HB2 := Aside0.mk (show Below w.heap.size w (wr.drewN nq) from by repeat (first | exact HB.out | apply pw_below_drewN | apply below_drew1))
      generalize wr.drewN nq = w3 at HZ2 HB2 ⊢
      have hz := HZ2.out
      have hzl := blk_lt hz
      have hc0 := blk_cell hz 0
      have hc1 := blk_cell hz 1
      have hc2 := blk_cell hz 2
      have hc3 := blk_cell hz 3
      have hf0 := blk_frozen hz 0
      have hf1 := blk_frozen hz 1
      have hf2 := blk_frozen hz 2
      have hf3 := blk_frozen hz 3
      clear hz
      go_wp2
      go_roundg 6
      case measure => omega
      case rel => exact ⟨1, by omega, rfl, ⟨fun j hj => by
        by_cases e : j = 0
        · subst e; simp; omega
        · exact HN.out j (by omega)⟩, HZ2, HB2⟩
    · have ix : ∀ w, (Instr.index 136 (.agg #[.string ⟨#[40]⟩, .string ⟨#[41]⟩, .string ⟨#[44]⟩, .string ⟨#[46]⟩, .string ⟨#[47]⟩, .string ⟨#[58, 45]⟩, .string ⟨#[33, 61]⟩]) (.int .i64 1)).run Try.prog w = .ok (.string ⟨#[41]⟩) w := fun _ => by kernel_rfl
      have hsg : ((⟨#[41]⟩ : ByteArray)[0]'(by decide)).toNat = 41 := rfl
      by_cases hb : c.toNat = 41
      · have HNX := Aside0.mk (show nextF (from_ s i) i = (⟨9, ⟨#[]⟩, i, i + 1⟩, true) from by rw [HC.out]; simp [nextF, hb, sg1])
        have cb : ((c.toNat : Int) != 41) = false := bne_eq_false_iff_eq.2 (by omega)
        go_wp2
        go_quiet (fail)
        rename_i nq
        have HZ2 := Aside0.mk (blk_drewN HZ.out nq)
        have HB2 := Aside0.mk (show Below w.heap.size w (wr.drewN nq) from by repeat (first | exact HB.out | apply pw_below_drewN | apply below_drew1))
        generalize wr.drewN nq = w3 at HZ2 HB2 ⊢
        have hz := HZ2.out
        have hzl := blk_lt hz
        have hc0 := blk_cell hz 0
        have hc1 := blk_cell hz 1
        have hc2 := blk_cell hz 2
        have hc3 := blk_cell hz 3
        have hf0 := blk_frozen hz 0
        have hf1 := blk_frozen hz 1
        have hf2 := blk_frozen hz 2
        have hf3 := blk_frozen hz 3
        clear hz
        go_wp2
        exact bodyPost_ret (results_ct rfl _ _ w.heap.size 71 _ (0, 0) _ rfl (blk_alloc (blk4_set HZ2.out _ _ _ _) _) Try.underlying71 rfl info71) rfl ⟨by rw [HNX.out]; rfl, (((((HB2.out.setCell (Nat.le_refl _) _).setCell (Nat.le_refl _) _).setCell (Nat.le_refl _) _).setCell (Nat.le_refl _) _).alloc (by have := HB2.out.size; simpa using this) _)⟩
      have cb : ((c.toNat : Int) != 41) = true := bne_iff_ne.2 (by omega)
      go_wp2
      go_quiet (fail)
      rename_i nq
      have HZ2 := Aside0.mk (blk_drewN HZ.out nq)
      have HB2 := Aside0.mk (show Below w.heap.size w (wr.drewN nq) from by repeat (first | exact HB.out | apply pw_below_drewN | apply below_drew1))
      generalize wr.drewN nq = w3 at HZ2 HB2 ⊢
      have hz := HZ2.out
      have hzl := blk_lt hz
      have hc0 := blk_cell hz 0
      have hc1 := blk_cell hz 1
      have hc2 := blk_cell hz 2
      have hc3 := blk_cell hz 3
      have hf0 := blk_frozen hz 0
      have hf1 := blk_frozen hz 1
      have hf2 := blk_frozen hz 2
      have hf3 := blk_frozen hz 3
      clear hz
      go_wp2
      go_roundg 5
      case measure => omega
      case rel => exact ⟨2, by omega, rfl, ⟨fun j hj => by
        by_cases e : j = 1
        · subst e; simp; omega
        · exact HN.out j (by omega)⟩, HZ2, HB2⟩
    · have ix : ∀ w, (Instr.index 136 (.agg #[.string ⟨#[40]⟩, .string ⟨#[41]⟩, .string ⟨#[44]⟩, .string ⟨#[46]⟩, .string ⟨#[47]⟩, .string ⟨#[58, 45]⟩, .string ⟨#[33, 61]⟩]) (.int .i64 2)).run Try.prog w = .ok (.string ⟨#[44]⟩) w := fun _ => by kernel_rfl
      have hsg : ((⟨#[44]⟩ : ByteArray)[0]'(by decide)).toNat = 44 := rfl
      by_cases hb : c.toNat = 44
      · have HNX := Aside0.mk (show nextF (from_ s i) i = (⟨10, ⟨#[]⟩, i, i + 1⟩, true) from by rw [HC.out]; simp [nextF, hb, sg1])
        have cb : ((c.toNat : Int) != 44) = false := bne_eq_false_iff_eq.2 (by omega)
        go_wp2
        go_quiet (fail)
        rename_i nq
        have HZ2 := Aside0.mk (blk_drewN HZ.out nq)
        have HB2 := Aside0.mk (show Below w.heap.size w (wr.drewN nq) from by repeat (first | exact HB.out | apply pw_below_drewN | apply below_drew1))
        generalize wr.drewN nq = w3 at HZ2 HB2 ⊢
        have hz := HZ2.out
        have hzl := blk_lt hz
        have hc0 := blk_cell hz 0
        have hc1 := blk_cell hz 1
        have hc2 := blk_cell hz 2
        have hc3 := blk_cell hz 3
        have hf0 := blk_frozen hz 0
        have hf1 := blk_frozen hz 1
        have hf2 := blk_frozen hz 2
        have hf3 := blk_frozen hz 3
        clear hz
        go_wp2
        exact bodyPost_ret (results_ct rfl _ _ w.heap.size 71 _ (0, 0) _ rfl (blk_alloc (blk4_set HZ2.out _ _ _ _) _) Try.underlying71 rfl info71) rfl ⟨by rw [HNX.out]; rfl, (((((HB2.out.setCell (Nat.le_refl _) _).setCell (Nat.le_refl _) _).setCell (Nat.le_refl _) _).setCell (Nat.le_refl _) _).alloc (by have := HB2.out.size; simpa using this) _)⟩
      have cb : ((c.toNat : Int) != 44) = true := bne_iff_ne.2 (by omega)
      go_wp2
      go_quiet (fail)
      rename_i nq
      have HZ2 := Aside0.mk (blk_drewN HZ.out nq)
      have HB2 := Aside0.mk (show Below w.heap.size w (wr.drewN nq) from by repeat (first | exact HB.out | apply pw_below_drewN | apply below_drew1))
      generalize wr.drewN nq = w3 at HZ2 HB2 ⊢
      have hz := HZ2.out
      have hzl := blk_lt hz
      have hc0 := blk_cell hz 0
      have hc1 := blk_cell hz 1
      have hc2 := blk_cell hz 2
      have hc3 := blk_cell hz 3
      have hf0 := blk_frozen hz 0
      have hf1 := blk_frozen hz 1
      have hf2 := blk_frozen hz 2
      have hf3 := blk_frozen hz 3
      clear hz
      go_wp2
      go_roundg 4
      case measure => omega
      case rel => exact ⟨3, by omega, rfl, ⟨fun j hj => by
        by_cases e : j = 2
        · subst e; simp; omega
        · exact HN.out j (by omega)⟩, HZ2, HB2⟩
    · have ix : ∀ w, (Instr.index 136 (.agg #[.string ⟨#[40]⟩, .string ⟨#[41]⟩, .string ⟨#[44]⟩, .string ⟨#[46]⟩, .string ⟨#[47]⟩, .string ⟨#[58, 45]⟩, .string ⟨#[33, 61]⟩]) (.int .i64 3)).run Try.prog w = .ok (.string ⟨#[46]⟩) w := fun _ => by kernel_rfl
      have hsg : ((⟨#[46]⟩ : ByteArray)[0]'(by decide)).toNat = 46 := rfl
      by_cases hb : c.toNat = 46
      · have HNX := Aside0.mk (show nextF (from_ s i) i = (⟨11, ⟨#[]⟩, i, i + 1⟩, true) from by rw [HC.out]; simp [nextF, hb, sg1])
        have cb : ((c.toNat : Int) != 46) = false := bne_eq_false_iff_eq.2 (by omega)
        go_wp2
        go_quiet (fail)
        rename_i nq
        have HZ2 := Aside0.mk (blk_drewN HZ.out nq)
        have HB2 := Aside0.mk (show Below w.heap.size w (wr.drewN nq) from by repeat (first | exact HB.out | apply pw_below_drewN | apply below_drew1))
        generalize wr.drewN nq = w3 at HZ2 HB2 ⊢
        have hz := HZ2.out
        have hzl := blk_lt hz
        have hc0 := blk_cell hz 0
        have hc1 := blk_cell hz 1
        have hc2 := blk_cell hz 2
        have hc3 := blk_cell hz 3
        have hf0 := blk_frozen hz 0
        have hf1 := blk_frozen hz 1
        have hf2 := blk_frozen hz 2
        have hf3 := blk_frozen hz 3
        clear hz
        go_wp2
        exact bodyPost_ret (results_ct rfl _ _ w.heap.size 71 _ (0, 0) _ rfl (blk_alloc (blk4_set HZ2.out _ _ _ _) _) Try.underlying71 rfl info71) rfl ⟨by rw [HNX.out]; rfl, (((((HB2.out.setCell (Nat.le_refl _) _).setCell (Nat.le_refl _) _).setCell (Nat.le_refl _) _).setCell (Nat.le_refl _) _).alloc (by have := HB2.out.size; simpa using this) _)⟩
      have cb : ((c.toNat : Int) != 46) = true := bne_iff_ne.2 (by omega)
      go_wp2
      go_quiet (fail)
      rename_i nq
      have HZ2 := Aside0.mk (blk_drewN HZ.out nq)
      have HB2 := Aside0.mk (show Below w.heap.size w (wr.drewN nq) from by repeat (first | exact HB.out | apply pw_below_drewN | apply below_drew1))
      generalize wr.drewN nq = w3 at HZ2 HB2 ⊢
      have hz := HZ2.out
      have hzl := blk_lt hz
      have hc0 := blk_cell hz 0
      have hc1 := blk_cell hz 1
      have hc2 := blk_cell hz 2
      have hc3 := blk_cell hz 3
      have hf0 := blk_frozen hz 0
      have hf1 := blk_frozen hz 1
      have hf2 := blk_frozen hz 2
      have hf3 := blk_frozen hz 3
      clear hz
      go_wp2
      go_roundg 3
      case measure => omega
      case rel => exact ⟨4, by omega, rfl, ⟨fun j hj => by
        by_cases e : j = 3
        · subst e; simp; omega
        · exact HN.out j (by omega)⟩, HZ2, HB2⟩
    · have ix : ∀ w, (Instr.index 136 (.agg #[.string ⟨#[40]⟩, .string ⟨#[41]⟩, .string ⟨#[44]⟩, .string ⟨#[46]⟩, .string ⟨#[47]⟩, .string ⟨#[58, 45]⟩, .string ⟨#[33, 61]⟩]) (.int .i64 4)).run Try.prog w = .ok (.string ⟨#[47]⟩) w := fun _ => by kernel_rfl
      have hsg : ((⟨#[47]⟩ : ByteArray)[0]'(by decide)).toNat = 47 := rfl
      by_cases hb : c.toNat = 47
      · have HNX := Aside0.mk (show nextF (from_ s i) i = (⟨12, ⟨#[]⟩, i, i + 1⟩, true) from by rw [HC.out]; simp [nextF, hb, sg1])
        have cb : ((c.toNat : Int) != 47) = false := bne_eq_false_iff_eq.2 (by omega)
        go_wp2
        go_quiet (fail)
        rename_i nq
        have HZ2 := Aside0.mk (blk_drewN HZ.out nq)
        have HB2 := Aside0.mk (show Below w.heap.size w (wr.drewN nq) from by repeat (first | exact HB.out | apply pw_below_drewN | apply below_drew1))
        generalize wr.drewN nq = w3 at HZ2 HB2 ⊢
        have hz := HZ2.out
        have hzl := blk_lt hz
        have hc0 := blk_cell hz 0
        have hc1 := blk_cell hz 1
        have hc2 := blk_cell hz 2
        have hc3 := blk_cell hz 3
        have hf0 := blk_frozen hz 0
        have hf1 := blk_frozen hz 1
        have hf2 := blk_frozen hz 2
        have hf3 := blk_frozen hz 3
        clear hz
        go_wp2
        exact bodyPost_ret (results_ct rfl _ _ w.heap.size 71 _ (0, 0) _ rfl (blk_alloc (blk4_set HZ2.out _ _ _ _) _) Try.underlying71 rfl info71) rfl ⟨by rw [HNX.out]; rfl, (((((HB2.out.setCell (Nat.le_refl _) _).setCell (Nat.le_refl _) _).setCell (Nat.le_refl _) _).setCell (Nat.le_refl _) _).alloc (by have := HB2.out.size; simpa using this) _)⟩
      have cb : ((c.toNat : Int) != 47) = true := bne_iff_ne.2 (by omega)
      go_wp2
      go_quiet (fail)
      rename_i nq
      have HZ2 := Aside0.mk (blk_drewN HZ.out nq)
      have HB2 := Aside0.mk (show Below w.heap.size w (wr.drewN nq) from by repeat (first | exact HB.out | apply pw_below_drewN | apply below_drew1))
      generalize wr.drewN nq = w3 at HZ2 HB2 ⊢
      have hz := HZ2.out
      have hzl := blk_lt hz
      have hc0 := blk_cell hz 0
      have hc1 := blk_cell hz 1
      have hc2 := blk_cell hz 2
      have hc3 := blk_cell hz 3
      have hf0 := blk_frozen hz 0
      have hf1 := blk_frozen hz 1
      have hf2 := blk_frozen hz 2
      have hf3 := blk_frozen hz 3
      clear hz
      go_wp2
      go_roundg 2
      case measure => omega
      case rel => exact ⟨5, by omega, rfl, ⟨fun j hj => by
        by_cases e : j = 4
        · subst e; simp; omega
        · exact HN.out j (by omega)⟩, HZ2, HB2⟩
    · have ix : ∀ w, (Instr.index 136 (.agg #[.string ⟨#[40]⟩, .string ⟨#[41]⟩, .string ⟨#[44]⟩, .string ⟨#[46]⟩, .string ⟨#[47]⟩, .string ⟨#[58, 45]⟩, .string ⟨#[33, 61]⟩]) (.int .i64 5)).run Try.prog w = .ok (.string ⟨#[58, 45]⟩) w := fun _ => by kernel_rfl
      have hsg : ((⟨#[58, 45]⟩ : ByteArray)[0]'(by decide)).toNat = 58 := rfl
      by_cases hb : c.toNat = 58
      · have cb : ((c.toNat : Int) != 58) = false := bne_eq_false_iff_eq.2 (by omega)
        have hsg2 : ((⟨#[58, 45]⟩ : ByteArray)[1]'(by decide)).toNat = 45 := rfl
        by_cases he : i + 1 = s.size
        · have HNX := Aside0.mk (show nextF (from_ s i) i = (⟨13, ⟨#[]⟩, i, i + 1⟩, false) from by rw [HC.out, from_end s (i + 1) (by omega)]; simp [nextF, hb, sg1])
          have hj1 : ((i : Int) + 1 == (s.size : Int)) = true := beq_iff_eq.2 (by omega)
          have HE := Aside0.mk he
          clear he
          go_wp2
          go_quiet (fail)
          rename_i nq
          have HZ2 := Aside0.mk (blk_drewN HZ.out nq)
          have HB2 := Aside0.mk (show Below w.heap.size w (wr.drewN nq) from by repeat (first | exact HB.out | apply pw_below_drewN | apply below_drew1))
          generalize wr.drewN nq = w3 at HZ2 HB2 ⊢
          have hz := HZ2.out
          have hzl := blk_lt hz
          have hc0 := blk_cell hz 0
          have hc1 := blk_cell hz 1
          have hc2 := blk_cell hz 2
          have hc3 := blk_cell hz 3
          have hf0 := blk_frozen hz 0
          have hf1 := blk_frozen hz 1
          have hf2 := blk_frozen hz 2
          have hf3 := blk_frozen hz 3
          clear hz
          go_wp2
          go_quiet (fail)
          have HZ4 := Aside0.mk (blk_drewN (blk_alloc HZ2.out (.cells #[.int .i64 13, .string ⟨#[]⟩, .int .i64 i, .int .i64 ((i : Int) + 1)] 71)) nq)
          have HA4 := Aside0.mk (blk_drewN (blk_new w3 (.cells #[.int .i64 13, .string ⟨#[]⟩, .int .i64 i, .int .i64 ((i : Int) + 1)] 71)) nq)
          have HB4 := Aside0.mk (show Below w.heap.size w ((w3.alloc (.cells #[.int .i64 13, .string ⟨#[]⟩, .int .i64 i, .int .i64 ((i : Int) + 1)] 71)).drewN nq) from by have hq := HB2.out.alloc (by have := HB2.out.size; simpa using this) (.cells #[.int .i64 13, .string ⟨#[]⟩, .int .i64 i, .int .i64 ((i : Int) + 1)] 71); repeat (first | exact hq | apply pw_below_drewN | apply below_drew1))
          generalize (w3.alloc (.cells #[.int .i64 13, .string ⟨#[]⟩, .int .i64 i, .int .i64 ((i : Int) + 1)] 71)).drewN nq = w4 at HZ4 HA4 HB4 ⊢
          clear hc0 hc1 hc2 hc3 hf0 hf1 hf2 hf3
          have hz := HZ4.out
          have hc0 := blk_cell hz 0
          have hc1 := blk_cell hz 1
          have hc2 := blk_cell hz 2
          have hc3 := blk_cell hz 3
          have hf0 := blk_frozen hz 0
          have hf1 := blk_frozen hz 1
          have hf2 := blk_frozen hz 2
          have hf3 := blk_frozen hz 3
          have ha := HA4.out
          have ha0 := blk_cell ha 0
          have ha1 := blk_cell ha 1
          have ha2 := blk_cell ha 2
          have ha3 := blk_cell ha 3
          have hg3 := blk_frozen ha 3
          clear hz ha
          have hne : w.heap.size ≠ w3.heap.size := by omega
          go_wp2
          exact bodyPost_ret (results_ct rfl _ _ w.heap.size 71 _ (0, 0) _ rfl (blk4_set HZ4.out _ _ _ _) Try.underlying71 rfl info71) rfl ⟨by rw [HNX.out]; rfl, ((((HB4.out.setCell (Nat.le_refl _) _).setCell (Nat.le_refl _) _).setCell (Nat.le_refl _) _).setCell (Nat.le_refl _) _)⟩
        · obtain ⟨c2, hd2, hb2⟩ := from_cons s (i + 1) (by omega)
          have hj1 : ((i : Int) + 1 == (s.size : Int)) = false := beq_eq_false_iff_ne.2 (by omega)
          have hx2 : ∀ h : i + 1 < s.size, ((s[i + 1]'h).toNat : Int) = (c2.toNat : Int) := fun h => (bt_at s ((i + 1 : Nat) : Int) h).trans hb2
          have htn : ((i : Int) + 1).toNat = i + 1 := by omega
          clear hb2
          by_cases hb3 : c2 = 45
          · subst hb3
            have HNX := Aside0.mk (show nextF (from_ s i) i = (⟨13, ⟨#[]⟩, i, i + 2⟩, true) from by rw [HC.out, hd2]; simp [nextF, hb, sg1])
            have cb3 : ((((45 : UInt8).toNat : Int)) != 45) = false := by decide
            clear hd2
            go_wp2
            go_quiet (fail)
            rename_i nq
            have HZ2 := Aside0.mk (blk_drewN HZ.out nq)
            have HB2 := Aside0.mk (show Below w.heap.size w (wr.drewN nq) from by repeat (first | exact HB.out | apply pw_below_drewN | apply below_drew1))
            generalize wr.drewN nq = w3 at HZ2 HB2 ⊢
            have hz := HZ2.out
            have hzl := blk_lt hz
            have hc0 := blk_cell hz 0
            have hc1 := blk_cell hz 1
            have hc2 := blk_cell hz 2
            have hc3 := blk_cell hz 3
            have hf0 := blk_frozen hz 0
            have hf1 := blk_frozen hz 1
            have hf2 := blk_frozen hz 2
            have hf3 := blk_frozen hz 3
            clear hz
            go_wp2
            go_quiet (fail)
            have HZ4 := Aside0.mk (blk_drewN (blk_alloc HZ2.out (.cells #[.int .i64 13, .string ⟨#[]⟩, .int .i64 i, .int .i64 ((i : Int) + 1)] 71)) nq)
            have HA4 := Aside0.mk (blk_drewN (blk_new w3 (.cells #[.int .i64 13, .string ⟨#[]⟩, .int .i64 i, .int .i64 ((i : Int) + 1)] 71)) nq)
            have HB4 := Aside0.mk (show Below w.heap.size w ((w3.alloc (.cells #[.int .i64 13, .string ⟨#[]⟩, .int .i64 i, .int .i64 ((i : Int) + 1)] 71)).drewN nq) from by have hq := HB2.out.alloc (by have := HB2.out.size; simpa using this) (.cells #[.int .i64 13, .string ⟨#[]⟩, .int .i64 i, .int .i64 ((i : Int) + 1)] 71); repeat (first | exact hq | apply pw_below_drewN | apply below_drew1))
            generalize (w3.alloc (.cells #[.int .i64 13, .string ⟨#[]⟩, .int .i64 i, .int .i64 ((i : Int) + 1)] 71)).drewN nq = w4 at HZ4 HA4 HB4 ⊢
            clear hc0 hc1 hc2 hc3 hf0 hf1 hf2 hf3
            have hz := HZ4.out
            have hc0 := blk_cell hz 0
            have hc1 := blk_cell hz 1
            have hc2 := blk_cell hz 2
            have hc3 := blk_cell hz 3
            have hf0 := blk_frozen hz 0
            have hf1 := blk_frozen hz 1
            have hf2 := blk_frozen hz 2
            have hf3 := blk_frozen hz 3
            have ha := HA4.out
            have ha0 := blk_cell ha 0
            have ha1 := blk_cell ha 1
            have ha2 := blk_cell ha 2
            have ha3 := blk_cell ha 3
            have hg3 := blk_frozen ha 3
            clear hz ha
            have hne : w.heap.size ≠ w3.heap.size := by omega
            go_wp2
            exact bodyPost_ret (results_ct rfl _ _ w.heap.size 71 _ (0, 0) _ rfl (blk4_set (blk_far HZ4.out hne _) _ _ _ _) Try.underlying71 rfl info71) rfl ⟨by rw [HNX.out]; rfl, (((((HB4.out.setCell (by have := HB2.out.size; simpa using this) _).setCell (Nat.le_refl _) _).setCell (Nat.le_refl _) _).setCell (Nat.le_refl _) _).setCell (Nat.le_refl _) _)⟩
          · have HNX := Aside0.mk (show nextF (from_ s i) i = (⟨13, ⟨#[]⟩, i, i + 1⟩, false) from by rw [HC.out, hd2]; simp [nextF, hb, sg1, hb3])
            have cb3 : ((c2.toNat : Int) != 45) = true := bne_iff_ne.2 (fun e => hb3 (UInt8.toNat_inj.1 (by rw [show c2.toNat = 45 from by omega]; rfl)))
            clear hd2
            go_wp2
            go_quiet (fail)
            rename_i nq
            have HZ2 := Aside0.mk (blk_drewN HZ.out nq)
            have HB2 := Aside0.mk (show Below w.heap.size w (wr.drewN nq) from by repeat (first | exact HB.out | apply pw_below_drewN | apply below_drew1))
            generalize wr.drewN nq = w3 at HZ2 HB2 ⊢
            have hz := HZ2.out
            have hzl := blk_lt hz
            have hc0 := blk_cell hz 0
            have hc1 := blk_cell hz 1
            have hc2 := blk_cell hz 2
            have hc3 := blk_cell hz 3
            have hf0 := blk_frozen hz 0
            have hf1 := blk_frozen hz 1
            have hf2 := blk_frozen hz 2
            have hf3 := blk_frozen hz 3
            clear hz
            go_wp2
            go_quiet (fail)
            have HZ4 := Aside0.mk (blk_drewN (blk_alloc HZ2.out (.cells #[.int .i64 13, .string ⟨#[]⟩, .int .i64 i, .int .i64 ((i : Int) + 1)] 71)) nq)
            have HA4 := Aside0.mk (blk_drewN (blk_new w3 (.cells #[.int .i64 13, .string ⟨#[]⟩, .int .i64 i, .int .i64 ((i : Int) + 1)] 71)) nq)
            have HB4 := Aside0.mk (show Below w.heap.size w ((w3.alloc (.cells #[.int .i64 13, .string ⟨#[]⟩, .int .i64 i, .int .i64 ((i : Int) + 1)] 71)).drewN nq) from by have hq := HB2.out.alloc (by have := HB2.out.size; simpa using this) (.cells #[.int .i64 13, .string ⟨#[]⟩, .int .i64 i, .int .i64 ((i : Int) + 1)] 71); repeat (first | exact hq | apply pw_below_drewN | apply below_drew1))
            generalize (w3.alloc (.cells #[.int .i64 13, .string ⟨#[]⟩, .int .i64 i, .int .i64 ((i : Int) + 1)] 71)).drewN nq = w4 at HZ4 HA4 HB4 ⊢
            clear hc0 hc1 hc2 hc3 hf0 hf1 hf2 hf3
            have hz := HZ4.out
            have hc0 := blk_cell hz 0
            have hc1 := blk_cell hz 1
            have hc2 := blk_cell hz 2
            have hc3 := blk_cell hz 3
            have hf0 := blk_frozen hz 0
            have hf1 := blk_frozen hz 1
            have hf2 := blk_frozen hz 2
            have hf3 := blk_frozen hz 3
            have ha := HA4.out
            have ha0 := blk_cell ha 0
            have ha1 := blk_cell ha 1
            have ha2 := blk_cell ha 2
            have ha3 := blk_cell ha 3
            have hg3 := blk_frozen ha 3
            clear hz ha
            have hne : w.heap.size ≠ w3.heap.size := by omega
            go_wp2
            exact bodyPost_ret (results_ct rfl _ _ w.heap.size 71 _ (0, 0) _ rfl (blk4_set HZ4.out _ _ _ _) Try.underlying71 rfl info71) rfl ⟨by rw [HNX.out]; rfl, ((((HB4.out.setCell (Nat.le_refl _) _).setCell (Nat.le_refl _) _).setCell (Nat.le_refl _) _).setCell (Nat.le_refl _) _)⟩
      have cb : ((c.toNat : Int) != 58) = true := bne_iff_ne.2 (by omega)
      go_wp2
      go_quiet (fail)
      rename_i nq
      have HZ2 := Aside0.mk (blk_drewN HZ.out nq)
      have HB2 := Aside0.mk (show Below w.heap.size w (wr.drewN nq) from by repeat (first | exact HB.out | apply pw_below_drewN | apply below_drew1))
      generalize wr.drewN nq = w3 at HZ2 HB2 ⊢
      have hz := HZ2.out
      have hzl := blk_lt hz
      have hc0 := blk_cell hz 0
      have hc1 := blk_cell hz 1
      have hc2 := blk_cell hz 2
      have hc3 := blk_cell hz 3
      have hf0 := blk_frozen hz 0
      have hf1 := blk_frozen hz 1
      have hf2 := blk_frozen hz 2
      have hf3 := blk_frozen hz 3
      clear hz
      go_wp2
      go_roundg 1
      case measure => omega
      case rel => exact ⟨6, by omega, rfl, ⟨fun j hj => by
        by_cases e : j = 5
        · subst e; simp; omega
        · exact HN.out j (by omega)⟩, HZ2, HB2⟩
    · have ix : ∀ w, (Instr.index 136 (.agg #[.string ⟨#[40]⟩, .string ⟨#[41]⟩, .string ⟨#[44]⟩, .string ⟨#[46]⟩, .string ⟨#[47]⟩, .string ⟨#[58, 45]⟩, .string ⟨#[33, 61]⟩]) (.int .i64 6)).run Try.prog w = .ok (.string ⟨#[33, 61]⟩) w := fun _ => by kernel_rfl
      have hsg : ((⟨#[33, 61]⟩ : ByteArray)[0]'(by decide)).toNat = 33 := rfl
      by_cases hb : c.toNat = 33
      · have cb : ((c.toNat : Int) != 33) = false := bne_eq_false_iff_eq.2 (by omega)
        have hsg2 : ((⟨#[33, 61]⟩ : ByteArray)[1]'(by decide)).toNat = 61 := rfl
        by_cases he : i + 1 = s.size
        · have HNX := Aside0.mk (show nextF (from_ s i) i = (⟨14, ⟨#[]⟩, i, i + 1⟩, false) from by rw [HC.out, from_end s (i + 1) (by omega)]; simp [nextF, hb, sg1])
          have hj1 : ((i : Int) + 1 == (s.size : Int)) = true := beq_iff_eq.2 (by omega)
          have HE := Aside0.mk he
          clear he
          go_wp2
          go_quiet (fail)
          rename_i nq
          have HZ2 := Aside0.mk (blk_drewN HZ.out nq)
          have HB2 := Aside0.mk (show Below w.heap.size w (wr.drewN nq) from by repeat (first | exact HB.out | apply pw_below_drewN | apply below_drew1))
          generalize wr.drewN nq = w3 at HZ2 HB2 ⊢
          have hz := HZ2.out
          have hzl := blk_lt hz
          have hc0 := blk_cell hz 0
          have hc1 := blk_cell hz 1
          have hc2 := blk_cell hz 2
          have hc3 := blk_cell hz 3
          have hf0 := blk_frozen hz 0
          have hf1 := blk_frozen hz 1
          have hf2 := blk_frozen hz 2
          have hf3 := blk_frozen hz 3
          clear hz
          go_wp2
          go_quiet (fail)
          have HZ4 := Aside0.mk (blk_drewN (blk_alloc HZ2.out (.cells #[.int .i64 14, .string ⟨#[]⟩, .int .i64 i, .int .i64 ((i : Int) + 1)] 71)) nq)
          have HA4 := Aside0.mk (blk_drewN (blk_new w3 (.cells #[.int .i64 14, .string ⟨#[]⟩, .int .i64 i, .int .i64 ((i : Int) + 1)] 71)) nq)
          have HB4 := Aside0.mk (show Below w.heap.size w ((w3.alloc (.cells #[.int .i64 14, .string ⟨#[]⟩, .int .i64 i, .int .i64 ((i : Int) + 1)] 71)).drewN nq) from by have hq := HB2.out.alloc (by have := HB2.out.size; simpa using this) (.cells #[.int .i64 14, .string ⟨#[]⟩, .int .i64 i, .int .i64 ((i : Int) + 1)] 71); repeat (first | exact hq | apply pw_below_drewN | apply below_drew1))
          generalize (w3.alloc (.cells #[.int .i64 14, .string ⟨#[]⟩, .int .i64 i, .int .i64 ((i : Int) + 1)] 71)).drewN nq = w4 at HZ4 HA4 HB4 ⊢
          clear hc0 hc1 hc2 hc3 hf0 hf1 hf2 hf3
          have hz := HZ4.out
          have hc0 := blk_cell hz 0
          have hc1 := blk_cell hz 1
          have hc2 := blk_cell hz 2
          have hc3 := blk_cell hz 3
          have hf0 := blk_frozen hz 0
          have hf1 := blk_frozen hz 1
          have hf2 := blk_frozen hz 2
          have hf3 := blk_frozen hz 3
          have ha := HA4.out
          have ha0 := blk_cell ha 0
          have ha1 := blk_cell ha 1
          have ha2 := blk_cell ha 2
          have ha3 := blk_cell ha 3
          have hg3 := blk_frozen ha 3
          clear hz ha
          have hne : w.heap.size ≠ w3.heap.size := by omega
          go_wp2
          exact bodyPost_ret (results_ct rfl _ _ w.heap.size 71 _ (0, 0) _ rfl (blk4_set HZ4.out _ _ _ _) Try.underlying71 rfl info71) rfl ⟨by rw [HNX.out]; rfl, ((((HB4.out.setCell (Nat.le_refl _) _).setCell (Nat.le_refl _) _).setCell (Nat.le_refl _) _).setCell (Nat.le_refl _) _)⟩
        · obtain ⟨c2, hd2, hb2⟩ := from_cons s (i + 1) (by omega)
          have hj1 : ((i : Int) + 1 == (s.size : Int)) = false := beq_eq_false_iff_ne.2 (by omega)
          have hx2 : ∀ h : i + 1 < s.size, ((s[i + 1]'h).toNat : Int) = (c2.toNat : Int) := fun h => (bt_at s ((i + 1 : Nat) : Int) h).trans hb2
          have htn : ((i : Int) + 1).toNat = i + 1 := by omega
          clear hb2
          by_cases hb3 : c2 = 61
          · subst hb3
            have HNX := Aside0.mk (show nextF (from_ s i) i = (⟨14, ⟨#[]⟩, i, i + 2⟩, true) from by rw [HC.out, hd2]; simp [nextF, hb, sg1])
            have cb3 : ((((61 : UInt8).toNat : Int)) != 61) = false := by decide
            clear hd2
            go_wp2
            go_quiet (fail)
            rename_i nq
            have HZ2 := Aside0.mk (blk_drewN HZ.out nq)
            have HB2 := Aside0.mk (show Below w.heap.size w (wr.drewN nq) from by repeat (first | exact HB.out | apply pw_below_drewN | apply below_drew1))
            generalize wr.drewN nq = w3 at HZ2 HB2 ⊢
            have hz := HZ2.out
            have hzl := blk_lt hz
            have hc0 := blk_cell hz 0
            have hc1 := blk_cell hz 1
            have hc2 := blk_cell hz 2
            have hc3 := blk_cell hz 3
            have hf0 := blk_frozen hz 0
            have hf1 := blk_frozen hz 1
            have hf2 := blk_frozen hz 2
            have hf3 := blk_frozen hz 3
            clear hz
            go_wp2
            go_quiet (fail)
            have HZ4 := Aside0.mk (blk_drewN (blk_alloc HZ2.out (.cells #[.int .i64 14, .string ⟨#[]⟩, .int .i64 i, .int .i64 ((i : Int) + 1)] 71)) nq)
            have HA4 := Aside0.mk (blk_drewN (blk_new w3 (.cells #[.int .i64 14, .string ⟨#[]⟩, .int .i64 i, .int .i64 ((i : Int) + 1)] 71)) nq)
            have HB4 := Aside0.mk (show Below w.heap.size w ((w3.alloc (.cells #[.int .i64 14, .string ⟨#[]⟩, .int .i64 i, .int .i64 ((i : Int) + 1)] 71)).drewN nq) from by have hq := HB2.out.alloc (by have := HB2.out.size; simpa using this) (.cells #[.int .i64 14, .string ⟨#[]⟩, .int .i64 i, .int .i64 ((i : Int) + 1)] 71); repeat (first | exact hq | apply pw_below_drewN | apply below_drew1))
            generalize (w3.alloc (.cells #[.int .i64 14, .string ⟨#[]⟩, .int .i64 i, .int .i64 ((i : Int) + 1)] 71)).drewN nq = w4 at HZ4 HA4 HB4 ⊢
            clear hc0 hc1 hc2 hc3 hf0 hf1 hf2 hf3
            have hz := HZ4.out
            have hc0 := blk_cell hz 0
            have hc1 := blk_cell hz 1
            have hc2 := blk_cell hz 2
            have hc3 := blk_cell hz 3
            have hf0 := blk_frozen hz 0
            have hf1 := blk_frozen hz 1
            have hf2 := blk_frozen hz 2
            have hf3 := blk_frozen hz 3
            have ha := HA4.out
            have ha0 := blk_cell ha 0
            have ha1 := blk_cell ha 1
            have ha2 := blk_cell ha 2
            have ha3 := blk_cell ha 3
            have hg3 := blk_frozen ha 3
            clear hz ha
            have hne : w.heap.size ≠ w3.heap.size := by omega
            go_wp2
            exact bodyPost_ret (results_ct rfl _ _ w.heap.size 71 _ (0, 0) _ rfl (blk4_set (blk_far HZ4.out hne _) _ _ _ _) Try.underlying71 rfl info71) rfl ⟨by rw [HNX.out]; rfl, (((((HB4.out.setCell (by have := HB2.out.size; simpa using this) _).setCell (Nat.le_refl _) _).setCell (Nat.le_refl _) _).setCell (Nat.le_refl _) _).setCell (Nat.le_refl _) _)⟩
          · have HNX := Aside0.mk (show nextF (from_ s i) i = (⟨14, ⟨#[]⟩, i, i + 1⟩, false) from by rw [HC.out, hd2]; simp [nextF, hb, sg1, hb3])
            have cb3 : ((c2.toNat : Int) != 61) = true := bne_iff_ne.2 (fun e => hb3 (UInt8.toNat_inj.1 (by rw [show c2.toNat = 61 from by omega]; rfl)))
            clear hd2
            go_wp2
            go_quiet (fail)
            rename_i nq
            have HZ2 := Aside0.mk (blk_drewN HZ.out nq)
            have HB2 := Aside0.mk (show Below w.heap.size w (wr.drewN nq) from by repeat (first | exact HB.out | apply pw_below_drewN | apply below_drew1))
            generalize wr.drewN nq = w3 at HZ2 HB2 ⊢
            have hz := HZ2.out
            have hzl := blk_lt hz
            have hc0 := blk_cell hz 0
            have hc1 := blk_cell hz 1
            have hc2 := blk_cell hz 2
            have hc3 := blk_cell hz 3
            have hf0 := blk_frozen hz 0
            have hf1 := blk_frozen hz 1
            have hf2 := blk_frozen hz 2
            have hf3 := blk_frozen hz 3
            clear hz
            go_wp2
            go_quiet (fail)
            have HZ4 := Aside0.mk (blk_drewN (blk_alloc HZ2.out (.cells #[.int .i64 14, .string ⟨#[]⟩, .int .i64 i, .int .i64 ((i : Int) + 1)] 71)) nq)
            have HA4 := Aside0.mk (blk_drewN (blk_new w3 (.cells #[.int .i64 14, .string ⟨#[]⟩, .int .i64 i, .int .i64 ((i : Int) + 1)] 71)) nq)
            have HB4 := Aside0.mk (show Below w.heap.size w ((w3.alloc (.cells #[.int .i64 14, .string ⟨#[]⟩, .int .i64 i, .int .i64 ((i : Int) + 1)] 71)).drewN nq) from by have hq := HB2.out.alloc (by have := HB2.out.size; simpa using this) (.cells #[.int .i64 14, .string ⟨#[]⟩, .int .i64 i, .int .i64 ((i : Int) + 1)] 71); repeat (first | exact hq | apply pw_below_drewN | apply below_drew1))
            generalize (w3.alloc (.cells #[.int .i64 14, .string ⟨#[]⟩, .int .i64 i, .int .i64 ((i : Int) + 1)] 71)).drewN nq = w4 at HZ4 HA4 HB4 ⊢
            clear hc0 hc1 hc2 hc3 hf0 hf1 hf2 hf3
            have hz := HZ4.out
            have hc0 := blk_cell hz 0
            have hc1 := blk_cell hz 1
            have hc2 := blk_cell hz 2
            have hc3 := blk_cell hz 3
            have hf0 := blk_frozen hz 0
            have hf1 := blk_frozen hz 1
            have hf2 := blk_frozen hz 2
            have hf3 := blk_frozen hz 3
            have ha := HA4.out
            have ha0 := blk_cell ha 0
            have ha1 := blk_cell ha 1
            have ha2 := blk_cell ha 2
            have ha3 := blk_cell ha 3
            have hg3 := blk_frozen ha 3
            clear hz ha
            have hne : w.heap.size ≠ w3.heap.size := by omega
            go_wp2
            exact bodyPost_ret (results_ct rfl _ _ w.heap.size 71 _ (0, 0) _ rfl (blk4_set HZ4.out _ _ _ _) Try.underlying71 rfl info71) rfl ⟨by rw [HNX.out]; rfl, ((((HB4.out.setCell (Nat.le_refl _) _).setCell (Nat.le_refl _) _).setCell (Nat.le_refl _) _).setCell (Nat.le_refl _) _)⟩
      have cb : ((c.toNat : Int) != 33) = true := bne_iff_ne.2 (by omega)
      go_wp2
      go_quiet (fail)
      rename_i nq
      have HZ2 := Aside0.mk (blk_drewN HZ.out nq)
      have HB2 := Aside0.mk (show Below w.heap.size w (wr.drewN nq) from by repeat (first | exact HB.out | apply pw_below_drewN | apply below_drew1))
      generalize wr.drewN nq = w3 at HZ2 HB2 ⊢
      have hz := HZ2.out
      have hzl := blk_lt hz
      have hc0 := blk_cell hz 0
      have hc1 := blk_cell hz 1
      have hc2 := blk_cell hz 2
      have hc3 := blk_cell hz 3
      have hf0 := blk_frozen hz 0
      have hf1 := blk_frozen hz 1
      have hf2 := blk_frozen hz 2
      have hf3 := blk_frozen hz 3
      clear hz
      go_wp2
      go_roundg 0
      case measure => omega
      case rel => exact ⟨7, by omega, rfl, ⟨fun j hj => by
        by_cases e : j = 6
        · subst e; simp; omega
        · exact HN.out j (by omega)⟩, HZ2, HB2⟩
    · have hne : c.toNat ≠ 40 ∧ c.toNat ≠ 41 ∧ c.toNat ≠ 44 ∧ c.toNat ≠ 46 ∧ c.toNat ≠ 47 ∧ c.toNat ≠ 58 ∧ c.toNat ≠ 33 :=
        ⟨fun e => HN.out 0 (by decide) e.symm, fun e => HN.out 1 (by decide) e.symm, fun e => HN.out 2 (by decide) e.symm, fun e => HN.out 3 (by decide) e.symm, fun e => HN.out 4 (by decide) e.symm, fun e => HN.out 5 (by decide) e.symm, fun e => HN.out 6 (by decide) e.symm⟩
      obtain ⟨n40, n41, n44, n46, n47, n58, n33⟩ := hne
      have HNX := Aside0.mk (show nextF (from_ s i) i = if kindF (wrun (digB c.toNat) 64 (from_ s i)) = 0 then (Tok.zero, false)
        else (⟨kindF (wrun (digB c.toNat) 64 (from_ s i)), if 5 ≤ kindF (wrun (digB c.toNat) 64 (from_ s i)) then ⟨#[]⟩ else ⟨(wrun (digB c.toNat) 64 (from_ s i)).toArray⟩, i, i + (wrun (digB c.toNat) 64 (from_ s i)).length⟩, true) from by
          rw [HC.out]; simp only [nextF]; rw [if_neg h34, if_neg (by simp [sg1, n40, n41, n44, n46, n47]), if_neg n58, if_neg n33])
      clear n40 n41 n44 n46 n47 n58 n33
      go_upto_region 16 with (fail)
      go_cut [13] (fun v13 wc => v13 = .bool (digB c.toNat) ∧ wc = wr)
      case first =>
        by_cases h48 : 48 ≤ c.toNat
        · have d48 : decide ((48 : Int) ≤ (c.toNat : Int)) = true := decide_eq_true (by omega)
          have hdg : digB c.toNat = decide (c.toNat ≤ 57) := by simp [digB, h48]
          go_wp2
          go_meet
          case rel => exact ⟨by rw [hdg]; simp; omega, rfl⟩
        · have d48 : decide ((48 : Int) ≤ (c.toNat : Int)) = false := decide_eq_false (by omega)
          have hdg : digB c.toNat = false := by simp [digB, h48]
          go_wp2
          go_meet
          case rel => exact ⟨by rw [hdg], rfl⟩
      case rest =>
        obtain ⟨rfl, rfl⟩ := hcut
        generalize hnum : digB c.toNat = num at HNX ⊢
        clear hnum
        go_upto_block 2 with (fail)
        go_cut [12] (fun v12 wc => ∃ m : Nat, v12 = .int .i64 ((i : Int) + (m : Int)) ∧ Aside0 (wrun num 64 (from_ s i) = (from_ s i).take m) ∧ i + m ≤ s.size ∧ Aside0 (wc.heap[w.heap.size]? = some (.cells #[.int .i64 0, .string ⟨#[]⟩, .int .i64 0, .int .i64 0] 71 (0, 0))) ∧ Aside0 (Below w.heap.size w wc))
        case first =>
          go_wp2
          go_loopg [12] 64 (fun n v12 w' => ∃ m : Nat, m + n = 64 ∧ v12 = .int .i64 ((i : Int) + (m : Int)) ∧ i + m ≤ s.size ∧ Aside0 (wrun num 64 (from_ s i) = (from_ s i).take m ++ wrun num (64 - m) ((from_ s i).drop m)) ∧ Aside0 (w'.heap[w.heap.size]? = some (.cells #[.int .i64 0, .string ⟨#[]⟩, .int .i64 0, .int .i64 0] 71 (0, 0))) ∧ Aside0 (Below w.heap.size w w'))
          case atStart => exact ⟨0, rfl, by simp, by omega, ⟨by simp⟩, HZ, HB⟩
          case round =>
            clear HZ HB
            obtain ⟨m, hm, rfl, him, HW, HZ, HB⟩ := hrel
            have hdr := from_drop s i m
            by_cases h1 : i + m = s.size
            · have b1 : decide ((i : Int) + (m : Int) < (s.size : Int)) = false := decide_eq_false (by omega)
              have hnil := from_end s (i + m) (by omega)
              have HWn := Aside0.mk (wrun_end _ _ _ HW.out (by rw [hdr, hnil]; cases (64 - m) <;> rfl))
              go_wp2
              go_meet
              case rel => exact ⟨m, rfl, HWn, him, HZ, HB⟩
            have hlt : i + m < s.size := by omega
            have b1 : decide ((i : Int) + (m : Int) < (s.size : Int)) = true := decide_eq_true (by omega)
            by_cases h2 : m = 64
            · have b2 : decide ((i : Int) + (m : Int) < (i : Int) + 64) = false := decide_eq_false (by omega)
              have HWn := Aside0.mk (wrun_end _ _ _ HW.out (by rw [h2]; rfl))
              go_wp2
              go_meet
              case rel => exact ⟨m, by rw [h2]; rfl, HWn, him, HZ, HB⟩
            have b2 : decide ((i : Int) + (m : Int) < (i : Int) + 64) = true := decide_eq_true (by omega)
            obtain ⟨d, hd, hb⟩ := from_cons s (i + m) hlt
            have hxd : ∀ h : i + m < s.size, ((s[i + m]'h).toNat : Int) = (d.toNat : Int) := fun h => (bt_at s ((i + m : Nat) : Int) h).trans hb
            have htn : ((i : Int) + (m : Int)).toNat = i + m := by omega
            have hdl := d.toNat_lt
            clear hb
            rw [hd] at hdr
            have HD := Aside0.mk hdr
            clear hd hdr
            have hv := word_val d
            cases hwd : wordB d.toNat with
            | false =>
              rw [hwd] at hv
              have HV := Aside0.mk hv
              clear hv
              have HWn := Aside0.mk (wrun_end _ _ _ HW.out (by rw [HD.out, show 64 - m = (63 - m) + 1 from by omega]; simp only [wrun]; rw [hwd]; rfl))
              go_wp2_with (go_at_call 93; (with_reducible refine (lex_word.calls (d.toNat : Int) false _ HV.out).mono ?_); rintro e w' ⟨rfl, ⟨nd, rfl⟩⟩)
              go_meet
              case rel => exact ⟨m, rfl, HWn, him, HZ, ⟨by repeat (first | exact HB.out | apply pw_below_drewN | apply below_drew1)⟩⟩
            | true =>
              rw [hwd] at hv
              have HV := Aside0.mk hv
              clear hv
              cases num with
              | false =>
                have HWn := Aside0.mk (wrun_go _ _ _ d _ (by omega) HD.out HW.out (by rw [hwd]; rfl))
                go_wp2_with (go_at_call 93; (with_reducible refine (lex_word.calls (d.toNat : Int) true _ HV.out).mono ?_); rintro e w' ⟨rfl, ⟨nd, rfl⟩⟩)
                go_roundg (63 - m)
                case measure => omega
                case rel => exact ⟨m + 1, by omega, by go_num, by omega, HWn, HZ, ⟨by repeat (first | exact HB.out | apply pw_below_drewN | apply below_drew1)⟩⟩
              | true =>
                by_cases h57 : d.toNat ≤ 57
                · have HWn := Aside0.mk (wrun_go _ _ _ d _ (by omega) HD.out HW.out (by rw [hwd]; simp [h57]))
                  have b57 : decide ((d.toNat : Int) ≤ 57) = true := decide_eq_true (by omega)
                  go_wp2_with (go_at_call 93; (with_reducible refine (lex_word.calls (d.toNat : Int) true _ HV.out).mono ?_); rintro e w' ⟨rfl, ⟨nd, rfl⟩⟩)
                  go_roundg (63 - m)
                  case measure => omega
                  case rel => exact ⟨m + 1, by omega, by go_num, by omega, HWn, HZ, ⟨by repeat (first | exact HB.out | apply pw_below_drewN | apply below_drew1)⟩⟩
                · have b57 : decide ((d.toNat : Int) ≤ 57) = false := decide_eq_false (by omega)
                  have HWn := Aside0.mk (wrun_end _ _ _ HW.out (by rw [HD.out, show 64 - m = (63 - m) + 1 from by omega]; simp only [wrun]; rw [hwd]; simp [h57]))
                  go_wp2_with (go_at_call 93; (with_reducible refine (lex_word.calls (d.toNat : Int) true _ HV.out).mono ?_); rintro e w' ⟨rfl, ⟨nd, rfl⟩⟩)
                  go_meet
                  case rel => exact ⟨m, rfl, HWn, him, HZ, ⟨by repeat (first | exact HB.out | apply pw_below_drewN | apply below_drew1)⟩⟩
        case rest =>
          clear HZ HB
          obtain ⟨m, rfl, HW, him, HZ, HB⟩ := hcut
          have hkv := kind_val ((from_ s i).take m)
          rw [← from_extract] at hkv
          have HK := Aside0.mk hkv
          clear hkv
          have htn : ((i : Int) + (m : Int)).toNat = i + m := by omega
          have hsl : ∀ wx, (Instr.slice 9 (.string s) (some (.int .i64 (i : Int))) (some (.int .i64 ((i : Int) + (m : Int)))) none).run Try.prog wx = .ok (.string (s.extract i (i + m))) wx := fun wx => by
            have hq := run_slice_string (P := Try.prog) (w := wx) 9 s .i64 .i64 (i : Int) ((i : Int) + (m : Int)) Try.underlying9 (by omega) (by omega) (by omega)
            rw [htn, Int.toNat_natCast] at hq
            exact hq
          go_step
          go_upto_region 19 with (fail)
          go_cut [14] (fun v14 w' => ∃ g6 : Nat, v14 = .pointer (some ⟨g6, 0, none⟩) ∧ Aside0 (w'.heap[g6]? = some (.cells #[.int .i64 (kindF ((from_ s i).take m) : Int), .string (s.extract i (i + m)), .int .i64 (i : Int), .int .i64 ((i : Int) + (m : Int))] 71 (0, 0))) ∧ Aside0 (w'.heap[w.heap.size]? = some (.cells #[.int .i64 0, .string ⟨#[]⟩, .int .i64 0, .int .i64 0] 71 (0, 0))) ∧ Aside0 (Below w.heap.size w w') ∧ Aside0 (w.heap.size < g6))
          case first =>
            go_region_with (first | (go_at_call 87; (with_reducible refine (lex_kindOf.calls 100 _ _ _ HK.out).mono ?_); rintro e w' ⟨rfl, ⟨nd, rfl⟩⟩; generalize hW : World.drewN _ nd = w5; have hsw := Aside0.mk (congrArg (fun x : World => x.heap.size) hW); have HZ5 := Aside0.mk (show w5.heap[w.heap.size]? = some (.cells #[.int .i64 0, .string ⟨#[]⟩, .int .i64 0, .int .i64 0] 71 (0, 0)) from by rw [← hW]; first | exact blk_drewN (blk_drew HZ.out) nd | exact blk_drewN (blk_alloc (blk_drew HZ.out) _) nd | exact blk_drewN (blk_drew (blk_alloc HZ.out _)) nd); (try (have ha5 : w5.heap[wc.heap.size]? = some (.cells #[.int .i64 0, .string ⟨#[]⟩, .int .i64 0, .int .i64 0] 71 (0, 0)) := (by rw [← hW]; first | exact blk_drewN (blk_new wc.drew _) nd | exact blk_drewN (blk_drew (blk_new wc _)) nd); have ha0 := blk_cell ha5 0; have ha1 := blk_cell ha5 1; have ha2 := blk_cell ha5 2; have ha3 := blk_cell ha5 3; have hg0 := blk_frozen ha5 0; have hg1 := blk_frozen ha5 1; have hg2 := blk_frozen ha5 2; have hg3 := blk_frozen ha5 3; have HA5 := Aside0.mk ha5; clear ha5)); have HB5 := Aside0.mk (show Below w.heap.size w w5 from by rw [← hW]; have hq := HB.out.alloc (by have := HB.out.size; simpa using this) (.cells #[.int .i64 0, .string ⟨#[]⟩, .int .i64 0, .int .i64 0] 71); repeat (first | exact HB.out | exact hq | apply pw_below_drewN | apply below_drew1)); clear hW))
            · go_step
              go_step
              go_meet
              case rel => first | exact ⟨_, rfl, ⟨blk_new w5 _⟩, ⟨blk_alloc HZ5.out _⟩, ⟨HB5.out.alloc (by have := HB5.out.size; simpa using this) _⟩, ⟨blk_lt HZ5.out⟩⟩ | exact ⟨_, rfl, ⟨blk4_set HA5.out _ _ _ _⟩, ⟨blk_far (blk_far (blk_far (blk_far HZ5.out (Nat.ne_of_lt (blk_lt HZ.out)) _) (Nat.ne_of_lt (blk_lt HZ.out)) _) (Nat.ne_of_lt (blk_lt HZ.out)) _) (Nat.ne_of_lt (blk_lt HZ.out)) _⟩, ⟨(((HB5.out.setCell (Nat.le_of_lt (blk_lt HZ.out)) _).setCell (Nat.le_of_lt (blk_lt HZ.out)) _).setCell (Nat.le_of_lt (blk_lt HZ.out)) _).setCell (Nat.le_of_lt (blk_lt HZ.out)) _⟩, ⟨blk_lt HZ.out⟩⟩
            · go_step
              go_step
              go_meet
              case rel => first | exact ⟨_, rfl, ⟨blk_new w5 _⟩, ⟨blk_alloc HZ5.out _⟩, ⟨HB5.out.alloc (by have := HB5.out.size; simpa using this) _⟩, ⟨blk_lt HZ5.out⟩⟩ | exact ⟨_, rfl, ⟨blk4_set HA5.out _ _ _ _⟩, ⟨blk_far (blk_far (blk_far (blk_far HZ5.out (Nat.ne_of_lt (blk_lt HZ.out)) _) (Nat.ne_of_lt (blk_lt HZ.out)) _) (Nat.ne_of_lt (blk_lt HZ.out)) _) (Nat.ne_of_lt (blk_lt HZ.out)) _⟩, ⟨(((HB5.out.setCell (Nat.le_of_lt (blk_lt HZ.out)) _).setCell (Nat.le_of_lt (blk_lt HZ.out)) _).setCell (Nat.le_of_lt (blk_lt HZ.out)) _).setCell (Nat.le_of_lt (blk_lt HZ.out)) _⟩, ⟨blk_lt HZ.out⟩⟩
          case rest =>
            clear HZ HB hsl
            obtain ⟨g6, rfl, HA, HZ, HB, HG⟩ := hcut
            have hN := HNX.out
            rw [HW.out] at hN
            have hlen : ((from_ s i).take m).length = m := by rw [List.length_take, from_len]; omega
            rw [hlen] at hN
            have hz := HZ.out
            have hc0 := blk_cell hz 0
            have hc1 := blk_cell hz 1
            have hc2 := blk_cell hz 2
            have hc3 := blk_cell hz 3
            have hf0 := blk_frozen hz 0
            have hf1 := blk_frozen hz 1
            have hf2 := blk_frozen hz 2
            have hf3 := blk_frozen hz 3
            have ha := HA.out
            have ha0 := blk_cell ha 0
            have ha1 := blk_cell ha 1
            have ha2 := blk_cell ha 2
            have ha3 := blk_cell ha 3
            have hg1 := blk_frozen ha 1
            have hne : w.heap.size ≠ g6 := Nat.ne_of_lt HG.out
            have hne2 : g6 ≠ w.heap.size := Ne.symm hne
            clear hz ha hlen
            go_step
            by_cases hk0 : kindF ((from_ s i).take m) = 0
            · rw [if_pos hk0] at hN
              have HN2 := Aside0.mk hN
              clear hN
              have ck : ((kindF ((from_ s i).take m) : Int) == 0) = true := beq_iff_eq.2 (by omega)
              clear hk0
              go_wp2
              exact bodyPost_ret (results_ct rfl _ _ w.heap.size 71 _ (0, 0) _ rfl (blk4_set HZ.out _ _ _ _) Try.underlying71 rfl info71) rfl ⟨by rw [HN2.out]; rfl, ((((HB.out.setCell (Nat.le_refl _) _).setCell (Nat.le_refl _) _).setCell (Nat.le_refl _) _).setCell (Nat.le_refl _) _)⟩
            · rw [if_neg hk0] at hN
              have ck : ((kindF ((from_ s i).take m) : Int) == 0) = false := beq_eq_false_iff_ne.2 (by omega)
              have hrv := reserved_val ((from_ s i).take m)
              rw [reserved_kind _ hk0, ← from_extract] at hrv
              clear hk0
              by_cases h5 : 5 ≤ kindF ((from_ s i).take m)
              · rw [if_pos h5] at hN
                have HN2 := Aside0.mk hN
                rw [decide_eq_true h5] at hrv
                have HV := Aside0.mk hrv
                clear hN hrv h5
                go_wp2_with (go_at_call 94; (with_reducible refine (lex_Reserved.calls _ true _ HV.out).mono ?_); rintro e w' ⟨rfl, ⟨nd, rfl⟩⟩)
                exact bodyPost_ret (results_ct rfl _ _ w.heap.size 71 _ (0, 0) _ rfl (blk4_set (blk_far (blk_drewN HZ.out nd) hne _) _ _ _ _) Try.underlying71 rfl info71) rfl ⟨by rw [HN2.out]; rfl, ((((((show Below w.heap.size w (wc.drewN nd) from by repeat (first | exact HB.out | apply pw_below_drewN | apply below_drew1)).setCell (Nat.le_of_lt HG.out) _).setCell (Nat.le_refl _) _).setCell (Nat.le_refl _) _).setCell (Nat.le_refl _) _).setCell (Nat.le_refl _) _)⟩
              · rw [if_neg h5] at hN
                have HN2 := Aside0.mk hN
                rw [decide_eq_false h5] at hrv
                have HV := Aside0.mk hrv
                clear hN hrv h5
                go_wp2_with (go_at_call 94; (with_reducible refine (lex_Reserved.calls _ false _ HV.out).mono ?_); rintro e w' ⟨rfl, ⟨nd, rfl⟩⟩)
                exact bodyPost_ret (results_ct rfl _ _ w.heap.size 71 _ (0, 0) _ rfl (blk4_set (blk_drewN HZ.out nd) _ _ _ _) Try.underlying71 rfl info71) rfl ⟨by rw [HN2.out, ← from_extract]; rfl, (((((show Below w.heap.size w (wc.drewN nd) from by repeat (first | exact HB.out | apply pw_below_drewN | apply below_drew1)).setCell (Nat.le_refl _) _).setCell (Nat.le_refl _) _).setCell (Nat.le_refl _) _).setCell (Nat.le_refl _) _)⟩
theorem next_calls (s : ByteArray) (i : Nat) (hs : s.size ≤ 140737488355328) (hi : i < s.size) (w : World) :
    Calls Try.prog 73 #[.string s, .int .i64 i] w (NextPost s i w) := by
  obtain ⟨c, hc, hb⟩ := from_cons s i hi
  by_cases h34 : c.toNat = 34
  · exact next_quote s i hs hi c hc hb h34 w
  · exact next_rest s i hs hi c hc hb h34 w
end Go.Proofs.Ytdodajpiidkglaa.K
