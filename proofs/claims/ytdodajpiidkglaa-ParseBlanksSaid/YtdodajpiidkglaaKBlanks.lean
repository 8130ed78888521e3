/- inklinglaw08.ParseBlanks: the walk. Conditions: the two lists of texts are read, in a machine's sizes. -/
import Derived.Test.YtdodajpiidkglaaKWorks
import Derived.Test.YtdodajpiidkglaaKSim
import Derived.Test.YtdodajpiidkglaaKSizePure
import Derived.Test.YtdodajpiidkglaaGGap
namespace Go.Proofs.Ytdodajpiidkglaa.K
open Go.RowKit Go.Proofs.YtdodajpiidkglaaW.PrintWords Go.Proofs.YtdodajpiidkglaaW.PrintLast Go.Proofs.YtdodajpiidkglaaW.PrintMore Go.Proofs.Ytdodajpiidkglaa.PAll
set_option linter.unusedVariables false
set_option linter.unusedSimpArgs false

/-- What parse.Program tells, as it is read. -/
def ReadPost (s : ByteArray) (w : World) (e : Ending) (w' : World) : Prop :=
  Below w.heap.size w w' ∧ ∃ v1 v2 v3 a3 c3 a4 c4 a5 c5, e = .returned (.tuple #[.agg #[v1, v2, v3], .agg #[.slice a3 (insA (programP s)).length c3, .slice a4 (outsA (programP s)).length c4, .slice a5 (rulesA (programP s)).length c5], .int .i64 (atR (programP s)), .int .i64 (errR (programP s))]) ∧
    Prog3C w' (insR (programP s)) (outsR (programP s)) (rulesR (programP s)) v1 v2 v3 ∧ Kd.C (Kd.int .i64) w' a3 (insA (programP s)).length (insA (programP s)) ∧ Kd.C (Kd.int .i64) w' a4 (outsA (programP s)).length (outsA (programP s)) ∧ Kd.C (Kd.int .i64) w' a5 (rulesA (programP s)).length (rulesA (programP s))
theorem C_none {α : Type} (d : Kd α) (w : World) : Kd.C d w none 0 ([] : List α) := by
  obtain ⟨A, c, h1, _, h2⟩ := Kd.R_reads (Kd.R_nil d 0 w 0 (fun _ => True))
  injection h1 with h1
  subst h1
  exact h2
theorem read_calls (s : ByteArray) (hs : s.size ≤ 2147483647) (w : World) : Calls Try.prog 14 #[.string s] w (ReadPost s w) := by
  refine (program_calls s hs w).mono fun e w' h => ?_
  unfold ProgPost at h
  unfold ReadPost
  cases hp : programP s with
  | error a =>
    rw [hp] at h
    exact ⟨h.1, _, _, _, none, 0, none, 0, none, 0, h.2, ⟨none, 0, none, 0, none, 0, rfl, rfl, rfl, C_none _ _, C_none _ _, C_none _ _⟩, C_none _ _, C_none _ _, C_none _ _⟩
  | ok l =>
    rw [hp] at h
    obtain ⟨hb, own, v0, v1, v2, v3, v4, v5, he, r0, r1, r2, r3, r4, r5⟩ := h
    obtain ⟨a0, c0, rfl, _, k0⟩ := Kd.R_reads r0
    obtain ⟨a1, c1, rfl, _, k1⟩ := Kd.R_reads r1
    obtain ⟨a2, c2, rfl, _, k2⟩ := Kd.R_reads r2
    obtain ⟨a3, c3, rfl, _, k3⟩ := Kd.R_reads r3
    obtain ⟨a4, c4, rfl, _, k4⟩ := Kd.R_reads r4
    obtain ⟨a5, c5, rfl, _, k5⟩ := Kd.R_reads r5
    exact ⟨hb, _, _, _, a3, c3, a4, c4, a5, c5, he, ⟨a0, c0, a1, c1, a2, c2, rfl, rfl, rfl, k0, k1, k2⟩, k3, k4, k5⟩

/-! #### gap -/
theorem bapp (a b : List UInt8) : (⟨a.toArray⟩ : ByteArray) ++ (⟨b.toArray⟩ : ByteArray) = ⟨(a ++ b).toArray⟩ := by
  apply ByteArray.ext
  rw [ByteArray.data_append]
  simp
theorem blist (s : ByteArray) : s = ⟨s.data.toList.toArray⟩ := by simp
def gapL (l : List UInt8) : List UInt8 := 37 :: 32 :: (l.filter (fun c : UInt8 => decide (c.toNat ≠ 10)) ++ [10, 9, 32, 13])
theorem gapL_gap (l : List UInt8) : Gap (gapL l) := gap_of _ (fun c hc => by
  rw [List.mem_filter] at hc
  simpa using hc.2)
theorem gapL_len (l : List UInt8) : (gapL l).length ≤ l.length + 6 := by
  have := List.length_filter_le (fun c : UInt8 => decide (c.toNat ≠ 10)) l
  simp only [gapL, List.length_cons, List.length_append, List.length_nil]; omega
theorem gap_loop (s : ByteArray) (hs : s.size ≤ 140737488355328) : ∀ (d j k : Nat) (acc : List UInt8), j + d = s.size → d < k → acc.length + d ≤ 140737488365328 →
    inklinglaw08_gap.l0 k s ⟨acc.toArray⟩ (j : Int) = some ⟨(acc ++ ((from_ s j).filter (fun c : UInt8 => decide (c.toNat ≠ 10)) ++ [10, 9, 32, 13])).toArray⟩ := by
  intro d
  induction d with
  | zero =>
    intro j k acc hj hk hl
    obtain ⟨k, rfl⟩ : ∃ m, k = m + 1 := ⟨k - 1, by omega⟩
    rw [from_end s j (by omega)]
    simp only [inklinglaw08_gap.l0]
    have hz : (⟨acc.toArray⟩ : ByteArray).size = acc.length := by simp [ByteArray.size]
    rw [if_neg (by omega), if_pos (by rw [hz]; omega)]
    have := bapp acc [10, 9, 32, 13]
    simp only [List.filter_nil, List.nil_append]
    rw [← this]
  | succ d ih =>
    intro j k acc hj hk hl
    obtain ⟨k, rfl⟩ : ∃ m, k = m + 1 := ⟨k - 1, by omega⟩
    obtain ⟨c, hc, hb⟩ := from_cons s j (by omega)
    have hw : wrap64 ((j : Int) + 1) = ((j + 1 : Nat) : Int) := by unfold wrap64; omega
    have hz : (⟨acc.toArray⟩ : ByteArray).size = acc.length := by simp [ByteArray.size]
    simp only [inklinglaw08_gap.l0]
    rw [if_pos (by omega), if_pos (by omega), hb, hw, hc]
    by_cases h10 : c.toNat = 10
    · rw [if_pos (by omega), List.filter_cons, if_neg (by simp [h10])]
      exact ih (j + 1) k acc (by omega) (by omega) (by omega)
    · have he : s.extract (j : Int).toNat (((j + 1 : Nat) : Int)).toNat = ⟨[c].toArray⟩ := by
        rw [Int.toNat_natCast, Int.toNat_natCast, from_extract s j 1, hc]; rfl
      rw [if_neg (by omega), if_pos (by omega), if_pos (by omega), he, bapp]
      have hz1 : (⟨[c].toArray⟩ : ByteArray).size = 1 := by simp [ByteArray.size]
      rw [if_pos (by rw [hz, hz1]; omega), List.filter_cons, if_pos (by simp [h10])]
      rw [ih (j + 1) k (acc ++ [c]) (by omega) (by omega) (by simp only [List.length_append, List.length_singleton]; omega)]
      simp
theorem gap_calls (s : ByteArray) (hs : s.size ≤ 140737488355328) (w : World) : Calls Try.prog 18 #[.string s] w fun e w' => e = .returned (.string ⟨(gapL s.data.toList).toArray⟩) ∧ Drawn0 w w' := by
  refine inklinglaw08_gap.calls (s.size + 1) s _ w ?_
  unfold inklinglaw08_gap.f
  have := gap_loop s hs s.size 0 (s.size + 1) [37, 32] (by omega) (by omega) (by simp; omega)
  rw [show (0 : Int) = ((0 : Nat) : Int) from rfl, show (⟨#[37, 32]⟩ : ByteArray) = ⟨[37, 32].toArray⟩ from rfl, this]
  rfl

theorem gap_callsG {s G : ByteArray} (h : G = ⟨(gapL s.data.toList).toArray⟩) (hs : s.size ≤ 140737488355328) (w : World) : Calls Try.prog 18 #[.string s] w fun e w' => e = .returned (.string G) ∧ Drawn0 w w' := by
  rw [h]; exact gap_calls s hs w

/-! #### the texts of the law -/
def tk (ts : List ByteArray) (i : Nat) : ByteArray := ts.getD i ByteArray.empty
def gk_ (gs : List ByteArray) (i : Nat) : ByteArray := gs.getD (i % gs.length) ByteArray.empty
def sumN (ts gs : List ByteArray) : Nat → Nat
  | 0 => ts.length
  | k + 1 => sumN ts gs k + (tk ts k).size + (if 0 < gs.length then (gk_ gs k).size else 0)
def PL (ts : List ByteArray) : Nat → List UInt8
  | 0 => []
  | k + 1 => PL ts k ++ (tk ts k).data.toList ++ [10]
def WL (ts gs : List ByteArray) : Nat → List UInt8
  | 0 => []
  | k + 1 => (WL ts gs k ++ (tk ts k).data.toList ++ [10]) ++ (if 0 < gs.length then gapL (gk_ gs k).data.toList else [])
theorem sumN_mono (ts gs : List ByteArray) : ∀ (d k : Nat), sumN ts gs k ≤ sumN ts gs (k + d)
  | 0, k => Nat.le_refl _
  | d + 1, k => by
    have := sumN_mono ts gs d k
    show _ ≤ sumN ts gs ((k + d) + 1)
    simp only [sumN]; omega
theorem PL_len (ts gs : List ByteArray) : ∀ k, (PL ts k).length + ts.length ≤ sumN ts gs k + k
  | 0 => by simp [PL, sumN]
  | k + 1 => by
    have := PL_len ts gs k
    have h : (tk ts k).data.toList.length = (tk ts k).size := rfl
    simp only [PL, sumN, List.length_append, List.length_singleton, h]; omega
theorem WL_len (ts gs : List ByteArray) : ∀ k, (WL ts gs k).length + ts.length ≤ sumN ts gs k + 7 * k
  | 0 => by simp [WL, sumN]
  | k + 1 => by
    have := WL_len ts gs k
    have h : (tk ts k).data.toList.length = (tk ts k).size := rfl
    have h2 := gapL_len (gk_ gs k).data.toList
    have h3 : (gk_ gs k).data.toList.length = (gk_ gs k).size := rfl
    simp only [WL, sumN, List.length_append, List.length_singleton, h]
    split
    · rename_i hg; omega
    · rename_i hg; simp; omega
/-- Behind k texts with their gaps, the rest plain. -/
def MixL (ts gs : List ByteArray) : Nat → Nat → List UInt8
  | k, 0 => WL ts gs k
  | k, d + 1 => MixL ts gs k d ++ (tk ts (k + d)).data.toList ++ [10]
theorem mix_zero (ts gs : List ByteArray) : ∀ d, MixL ts gs 0 d = PL ts d
  | 0 => rfl
  | d + 1 => by simp only [MixL, PL, mix_zero ts gs d, Nat.zero_add]
/-- A gap goes in. -/
theorem mix_split (ts gs : List ByteArray) (k : Nat) : ∀ d, ∃ Q, MixL ts gs k (d + 1) = (WL ts gs k ++ (tk ts k).data.toList) ++ 10 :: Q ∧ MixL ts gs (k + 1) d = (WL ts gs k ++ (tk ts k).data.toList) ++ 10 :: ((if 0 < gs.length then gapL (gk_ gs k).data.toList else []) ++ Q)
  | 0 => ⟨[], by simp [MixL], by simp [MixL, WL]⟩
  | d + 1 => by
    obtain ⟨Q, h1, h2⟩ := mix_split ts gs k d
    refine ⟨Q ++ (tk ts (k + 1 + d)).data.toList ++ [10], ?_, ?_⟩
    · have e : MixL ts gs k (d + 1 + 1) = MixL ts gs k (d + 1) ++ (tk ts (k + (d + 1))).data.toList ++ [10] := rfl
      rw [e, h1, show k + (d + 1) = k + 1 + d by omega]; simp
    · have e : MixL ts gs (k + 1) (d + 1) = MixL ts gs (k + 1) d ++ (tk ts (k + 1 + d)).data.toList ++ [10] := rfl
      rw [e, h2]; simp
theorem P_step {ts : List ByteArray} {i : Nat} {p : ByteArray} (h : p = ⟨(PL ts i).toArray⟩) : p ++ tk ts i ++ ⟨#[10]⟩ = ⟨(PL ts (i + 1)).toArray⟩ := by
  rw [h]; apply ByteArray.ext; rw [ByteArray.data_append, ByteArray.data_append]; simp [PL]
theorem W_step {ts gs : List ByteArray} {i : Nat} {p : ByteArray} (h : p = ⟨(WL ts gs i).toArray⟩) (hg : 0 < gs.length) : p ++ tk ts i ++ ⟨#[10]⟩ ++ ⟨(gapL (tk gs (i % gs.length)).data.toList).toArray⟩ = ⟨(WL ts gs (i + 1)).toArray⟩ := by
  rw [h]; apply ByteArray.ext; rw [ByteArray.data_append, ByteArray.data_append, ByteArray.data_append]; simp only [WL]; rw [if_pos hg]; simp [gk_, tk]
theorem W_step0 {ts gs : List ByteArray} {i : Nat} {p : ByteArray} (h : p = ⟨(WL ts gs i).toArray⟩) (hg : ¬ 0 < gs.length) : p ++ tk ts i ++ ⟨#[10]⟩ = ⟨(WL ts gs (i + 1)).toArray⟩ := by
  rw [h]; apply ByteArray.ext; rw [ByteArray.data_append, ByteArray.data_append]; simp only [WL]; rw [if_neg hg]; simp
theorem gap_nil : Gap [] := fun r i => rfl
theorem mix_alike (ts gs : List ByteArray) : ∀ (k d : Nat), Alike (programP ⟨(PL ts (k + d)).toArray⟩) (programP ⟨(MixL ts gs k d).toArray⟩)
  | 0, d => by rw [mix_zero, Nat.zero_add]; exact alike_refl _
  | k + 1, d => by
    have h1 := mix_alike ts gs k (d + 1)
    obtain ⟨Q, e1, e2⟩ := mix_split ts gs k d
    rw [show k + 1 + d = k + (d + 1) by omega]
    refine alike_trans h1 (ins_alike (P := WL ts gs k ++ (tk ts k).data.toList) (G := if 0 < gs.length then gapL (gk_ gs k).data.toList else []) (Q := Q) ⟨?_, ?_, ?_⟩)
    · simpa using e1
    · simpa using e2
    · split
      · exact gapL_gap _
      · exact gap_nil
theorem blanks_alike (ts gs : List ByteArray) (n : Nat) : Alike (programP ⟨(PL ts n).toArray⟩) (programP ⟨(WL ts gs n).toArray⟩) := mix_alike ts gs n 0
theorem alike_told {a b : Except Nat (List Stm)} (h : Alike a b) : insR b = insR a ∧ outsR b = outsR a ∧ rulesR b = rulesR a ∧ (insA b).length = (insA a).length ∧ (outsA b).length = (outsA a).length ∧ (rulesA b).length = (rulesA a).length ∧ errR b = errR a := by
  cases a <;> cases b <;> first | exact h.elim | exact ⟨rfl, rfl, rfl, rfl, rfl, rfl, rfl⟩ | (obtain ⟨h1, h2, h3, h4, h5, h6⟩ := alike_lists h; exact ⟨h1, h2, h3, h4, h5, h6, rfl⟩)

theorem read_alike {p : ByteArray} (q : ByteArray) (h : Alike (programP p) (programP q)) (hs : q.size ≤ 2147483647) (w : World) : Calls Try.prog 14 #[.string q] w fun e w' =>
    Below w.heap.size w w' ∧ ∃ v1 v2 v3 a3 c3 a4 c4 a5 c5, e = .returned (.tuple #[.agg #[v1, v2, v3], .agg #[.slice a3 (insA (programP p)).length c3, .slice a4 (outsA (programP p)).length c4, .slice a5 (rulesA (programP p)).length c5], .int .i64 (atR (programP q)), .int .i64 (errR (programP p))]) ∧
    Prog3C w' (insR (programP p)) (outsR (programP p)) (rulesR (programP p)) v1 v2 v3 := by
  obtain ⟨e1, e2, e3, e4, e5, e6, e7⟩ := alike_told h
  refine (read_calls q hs w).mono fun e w' hp => ?_
  obtain ⟨hb, v1, v2, v3, a3, c3, a4, c4, a5, c5, he, hq, _⟩ := hp
  rw [e4, e5, e6, e7] at he
  rw [e1, e2, e3] at hq
  exact ⟨hb, v1, v2, v3, a3, c3, a4, c4, a5, c5, he, hq⟩
theorem heap_size_alloc (w : World) (o : Obj) : (w.alloc o).heap.size = w.heap.size + 1 := Array.size_push _
theorem heap_new (w : World) (o : Obj) : (w.alloc o).heap[w.heap.size]? = some o := by
  show (w.heap.push o)[w.heap.size]? = some o
  simp
theorem three_cells {W : World} {b t : Nat} {x y z : Value} (h : W.heap[b]? = some (.cells #[x, y, z] t (0, 0))) : W.cell? ⟨b, 0, none⟩ = some x ∧ W.cell? ⟨b, 1, none⟩ = some y ∧ W.cell? ⟨b, 2, none⟩ = some z := by
  refine ⟨?_, ?_, ?_⟩ <;> · unfold World.cell?; rw [h]; rfl
theorem pair_cells {w w2 : World} {x y z x' y' z' : Value} {t u : TypeId} (h : Below ((w.alloc (.cells #[x, y, z] t)).alloc (.cells #[x', y', z'] u)).heap.size ((w.alloc (.cells #[x, y, z] t)).alloc (.cells #[x', y', z'] u)) w2) :
    (w.heap.size + 2 ≤ w2.heap.size) ∧ (w2.cell? ⟨w.heap.size, 0, none⟩ = some x ∧ w2.cell? ⟨w.heap.size, 1, none⟩ = some y ∧ w2.cell? ⟨w.heap.size, 2, none⟩ = some z) ∧ (w2.cell? ⟨w.heap.size + 1, 0, none⟩ = some x' ∧ w2.cell? ⟨w.heap.size + 1, 1, none⟩ = some y' ∧ w2.cell? ⟨w.heap.size + 1, 2, none⟩ = some z') := by
  have hs1 : (w.alloc (.cells #[x, y, z] t)).heap.size = w.heap.size + 1 := heap_size_alloc _ _
  have hs2 : ((w.alloc (.cells #[x, y, z] t)).alloc (.cells #[x', y', z'] u)).heap.size = w.heap.size + 2 := by rw [heap_size_alloc, heap_size_alloc]
  have h2 := h.size
  refine ⟨by omega, three_cells (t := t) ?_, three_cells (t := u) ?_⟩
  · rw [h.block _ (by omega), Below.heap_alloc _ _ _ (by omega)]; exact heap_new w _
  · have := heap_new (w.alloc (.cells #[x, y, z] t)) (.cells #[x', y', z'] u)
    rw [hs1] at this
    rw [h.block _ (by omega)]; exact this

/-- A list of texts as it is read. -/
def Strs (w : World) (A : Option Addr) (ts : List ByteArray) : Prop :=
  ts.length ≤ 140737488355328 ∧ (∀ i, i < ts.length → ∃ ad, A = some ad ∧ w.cell? (ad.add i) = some (.string (tk ts i))) ∧ ∀ i, (tk ts i).size ≤ 140737488355328
set_option maxHeartbeats 8000000 in
set_option maxRecDepth 100000 in
theorem blanks_walk {w : World} {A1 A2 : Option Addr} {c1 c2 : Nat} {ts gs : List ByteArray} (h1 : Strs w A1 ts) (h2 : Strs w A2 gs) :
    Calls Try.prog 5 #[.slice A1 ts.length c1, .slice A2 gs.length c2] w (TrueEnd w) := by
  obtain ⟨hn1, hc1, hs1⟩ := h1
  obtain ⟨hn2, hc2, hs2⟩ := h2
  have HC1 := Aside0.mk hc1
  have HS1 := Aside0.mk hs1
  have HC2 := Aside0.mk hc2
  have HS2 := Aside0.mk hs2
  clear hc1 hs1 hc2 hs2
  go_enter Try.func5, Try.ntmps5
  go_wp2
  go_loopg [5, 6] (ts.length + 1) (fun n v5 v6 wc => ∃ j S : Nat, v6 = .int .i64 (j : Int) ∧ v5 = .int .i64 (S : Int) ∧ j + n = ts.length + 1 ∧ j ≤ ts.length ∧ Aside0 (sumN ts gs j = S) ∧ S ≤ 281474976830656 ∧ wc = w)
  case atStart => exact ⟨0, ts.length, rfl, rfl, by omega, by omega, ⟨rfl⟩, by omega, rfl⟩
  case round =>
    obtain ⟨j, S, rfl, rfl, hj, hjl, HSN, hS, rfl⟩ := hrel
    have hsz := HS1.out j
    by_cases hA : j < ts.length ∧ S ≤ 20000
    · obtain ⟨hlt, hS2⟩ := hA
      have hd : decide (j < ts.length) = true := decide_eq_true hlt
      have hd2 : decide ((j : Int) < (ts.length : Int)) = true := decide_eq_true (by omega)
      have hd3 : decide ((S : Int) ≤ 20000) = true := decide_eq_true (by omega)
      have hd4 : decide (S ≤ 20000) = true := decide_eq_true hS2
      obtain ⟨ad, rfl, hcell⟩ := HC1.out j hlt
      by_cases hg : 0 < gs.length
      · have hg2 : decide ((0 : Int) < (gs.length : Int)) = true := decide_eq_true (by omega)
        have hg3 : decide (0 < gs.length) = true := decide_eq_true hg
        have hm : j % gs.length < gs.length := Nat.mod_lt _ hg
        obtain ⟨ad2, rfl, hcell2⟩ := HC2.out (j % gs.length) hm
        have hgz := HS2.out (j % gs.length)
        have hg4 : (0 : Int) < (gs.length : Int) := by omega
        have hdm : decide (j % gs.length < gs.length) = true := decide_eq_true hm
        have hne : ((gs.length : Int) == 0) = false := beq_eq_false_iff_ne.2 (by omega)
        have HSN2 := Aside0.mk (show sumN ts gs (j + 1) = S + (tk ts j).size + (tk gs (j % gs.length)).size from by
          simp only [sumN]; rw [if_pos hg, HSN.out]; rfl)
        go_wp2
        go_roundg (ts.length - j)
        case measure => omega
        case rel => exact ⟨j + 1, S + (tk ts j).size + (tk gs (j % gs.length)).size, by go_num, by go_num, by omega, by omega, HSN2, by omega, rfl⟩
      · have hg2 : decide ((0 : Int) < (gs.length : Int)) = false := decide_eq_false (by omega)
        have hg3 : decide (0 < gs.length) = false := decide_eq_false hg
        have HSN2 := Aside0.mk (show sumN ts gs (j + 1) = S + (tk ts j).size from by
          simp only [sumN]; rw [if_neg hg, HSN.out]; rfl)
        go_wp2
        go_roundg (ts.length - j)
        case measure => omega
        case rel => exact ⟨j + 1, S + (tk ts j).size, by go_num, by go_num, by omega, by omega, HSN2, by omega, rfl⟩
    · by_cases hS3 : 20000 < S
      · have hd3 : decide ((S : Int) ≤ 20000) = false := decide_eq_false (by omega)
        have hd4 : decide (S ≤ 20000) = false := decide_eq_false (by omega)
        have hd5 : decide ((20000 : Int) < (S : Int)) = true := decide_eq_true (by omega)
        have hd6 : decide (20000 < S) = true := decide_eq_true hS3
        rcases Nat.lt_or_ge j ts.length with hlt | hlt
        · have hd : decide (j < ts.length) = true := decide_eq_true hlt
          have hd2 : decide ((j : Int) < (ts.length : Int)) = true := decide_eq_true (by omega)
          go_wp2_with (go_at_call 8; (with_reducible refine (works_calls _).mono ?_); rintro e w3 ⟨rfl, hb⟩; have HBW := Aside0.mk hb; clear hb)
          go_ret
          exact ⟨rfl, HBW.out⟩
        · have hd : decide (j < ts.length) = false := decide_eq_false (by omega)
          have hd2 : decide ((j : Int) < (ts.length : Int)) = false := decide_eq_false (by omega)
          go_wp2_with (go_at_call 8; (with_reducible refine (works_calls _).mono ?_); rintro e w3 ⟨rfl, hb⟩; have HBW := Aside0.mk hb; clear hb)
          go_ret
          exact ⟨rfl, HBW.out⟩
      · have hd5 : decide ((20000 : Int) < (S : Int)) = false := decide_eq_false (by omega)
        have hd6 : decide (20000 < S) = false := decide_eq_false hS3
        have hje : j = ts.length := by omega
        have hd : decide (j < ts.length) = false := decide_eq_false (by omega)
        have hd2 : decide ((j : Int) < (ts.length : Int)) = false := decide_eq_false (by omega)
        have HSE := Aside0.mk (show sumN ts gs ts.length ≤ 20000 ∧ ts.length ≤ 20000 from by
          have h1 := HSN.out
          rw [hje] at h1
          have h2 := sumN_mono ts gs ts.length 0
          rw [Nat.zero_add, h1] at h2
          have h3 : sumN ts gs 0 = ts.length := rfl
          omega)
        have hts2 : ts.length ≤ 20000 := HSE.out.2
        clear hA hsz HSN hje
        go_wp2
        go_loopg [7, 8, 9] ts.length (fun n v7 v8 v9 wc => ∃ (i : Nat) (p q : ByteArray), v9 = .int .i64 (i : Int) ∧ v7 = .string p ∧ v8 = .string q ∧ i + n = ts.length ∧ Aside0 (p = ⟨(PL ts i).toArray⟩) ∧ Aside0 (q = ⟨(WL ts gs i).toArray⟩) ∧ p.size ≤ 200000 ∧ q.size ≤ 200000 ∧ Drawn0 wr wc)
        case atStart => exact ⟨0, _, _, rfl, rfl, rfl, by omega, ⟨rfl⟩, ⟨rfl⟩, by decide, by decide, Drawn0.refl _⟩
        case round =>
          obtain ⟨i, p, q, rfl, rfl, rfl, hi, HPp, HQq, hps, hqs, ⟨md, rfl⟩⟩ := hrel
          clear hd hd2 hd5 hd6 hS3
          by_cases hlt : i < ts.length
          · have hd : decide (i < ts.length) = true := decide_eq_true hlt
            have hd2 : decide ((i : Int) < (ts.length : Int)) = true := decide_eq_true (by omega)
            obtain ⟨ad, rfl, hcell⟩ := HC1.out i hlt
            have hsz := HS1.out i
            have hgz := HS2.out (i % gs.length)
            by_cases hg : 0 < gs.length
            · have hg2 : decide ((0 : Int) < (gs.length : Int)) = true := decide_eq_true (by omega)
              have hg3 : decide (0 < gs.length) = true := decide_eq_true hg
              have hm : i % gs.length < gs.length := Nat.mod_lt _ hg
              obtain ⟨ad2, rfl, hcell2⟩ := HC2.out (i % gs.length) hm
              have hg4 : (0 : Int) < (gs.length : Int) := by omega
              have hdm : decide (i % gs.length < gs.length) = true := decide_eq_true hm
              have hne : ((gs.length : Int) == 0) = false := beq_eq_false_iff_ne.2 (by omega)
              obtain ⟨G, HG, hgl⟩ : ∃ G : ByteArray, Aside0 (G = ⟨(gapL (tk gs (i % gs.length)).data.toList).toArray⟩) ∧ G.size ≤ 140737488365328 := by
                refine ⟨_, ⟨rfl⟩, ?_⟩
                have h1 := gapL_len (tk gs (i % gs.length)).data.toList
                have h2 : (tk gs (i % gs.length)).data.toList.length = (tk gs (i % gs.length)).size := rfl
                show (gapL _).toArray.size ≤ _
                rw [List.size_toArray]; omega
              go_wp2_with (go_at_call 18; (with_reducible refine (gap_callsG HG.out hgz _).mono ?_); rintro e w3 ⟨rfl, ⟨ng, rfl⟩⟩)
              have hpl := by have h1 := PL_len ts gs (i + 1); have h2 := sumN_mono ts gs (ts.length - (i + 1)) (i + 1); exact And.intro h1 h2
              have hwl := WL_len ts gs (i + 1)
              rw [show i + 1 + (ts.length - (i + 1)) = ts.length by omega] at hpl
              have hse := HSE.out
              have HP2 := Aside0.mk (P_step HPp.out)
              have HQ2 := Aside0.mk (Eq.trans (congrArg (fun G => q ++ tk ts i ++ ⟨#[10]⟩ ++ G) HG.out) (W_step (gs := gs) HQq.out hg))
              go_roundg (ts.length - (i + 1))
              case measure => omega
              case rel => exact ⟨i + 1, _, _, by go_num, rfl, rfl, by omega, HP2, HQ2, (by rw [HP2.out]; show (PL ts (i + 1)).toArray.size ≤ _; rw [List.size_toArray]; omega), (by rw [HQ2.out]; show (WL ts gs (i + 1)).toArray.size ≤ _; rw [List.size_toArray]; omega), ⟨_, rfl⟩⟩
            · have hg2 : decide ((0 : Int) < (gs.length : Int)) = false := decide_eq_false (by omega)
              have hg3 : decide (0 < gs.length) = false := decide_eq_false hg
              go_wp2
              have hpl := by have h1 := PL_len ts gs (i + 1); have h2 := sumN_mono ts gs (ts.length - (i + 1)) (i + 1); exact And.intro h1 h2
              have hwl := WL_len ts gs (i + 1)
              rw [show i + 1 + (ts.length - (i + 1)) = ts.length by omega] at hpl
              have hse := HSE.out
              have HP2 := Aside0.mk (P_step HPp.out)
              have HQ2 := Aside0.mk (W_step0 (gs := gs) HQq.out hg)
              go_roundg (ts.length - (i + 1))
              case measure => omega
              case rel => exact ⟨i + 1, _, _, by go_num, rfl, rfl, by omega, HP2, HQ2, (by rw [HP2.out]; show (PL ts (i + 1)).toArray.size ≤ _; rw [List.size_toArray]; omega), (by rw [HQ2.out]; show (WL ts gs (i + 1)).toArray.size ≤ _; rw [List.size_toArray]; omega), ⟨_, rfl⟩⟩
          · have hie : i = ts.length := by omega
            have hd : decide (i < ts.length) = false := decide_eq_false (by omega)
            have hd2 : decide ((i : Int) < (ts.length : Int)) = false := decide_eq_false (by omega)
            have HAL := Aside0.mk (show Alike (programP p) (programP q) from by rw [HPp.out, HQq.out]; exact blanks_alike ts gs i)
            clear hie
            have hps2 : p.size ≤ 2147483647 := by omega
            have hqs2 : q.size ≤ 2147483647 := by omega
            have HWC := Aside0.mk (show Below wr.heap.size wr (wr.drewN md) from below_drewN (Below.refl _ wr) md)
            generalize wr.drewN md = wc at HWC
            go_upto_region 20 with (first | (go_at_call 14; (with_reducible refine (read_calls _ hps2 _).mono ?_); rintro e w1 ⟨hb, _, _, _, xa, xb, xc, xd, xe, xf, rfl, ⟨xg, xh, xi, xj, xk, xl, rfl, rfl, rfl, hq1, hq2, hq3⟩, _⟩; have HB1 := Aside0.mk hb; have HV1 := Aside0.mk (And.intro hq1 (And.intro hq2 hq3)); have hz1 := hb.size; clear hb hq1 hq2 hq3))
            go_upto_region 21 with (first | (go_at_call 14; (with_reducible refine (read_alike _ HAL.out hqs2 _).mono ?_); rintro e w2 ⟨hb, _, _, _, ya, yb, yc, yd, ye, yf, rfl, ⟨yg, yh, yi, yj, yk, yl, rfl, rfl, rfl, hq1, hq2, hq3⟩⟩; have HB2 := Aside0.mk hb; have HV2 := Aside0.mk (And.intro hq1 (And.intro hq2 hq3)); have hz2 := hb.size; obtain ⟨hgs, ⟨hx0, hx1, hx2⟩, ⟨hy0, hy1, hy2⟩⟩ := pair_cells HB2.out; clear hb hq1 hq2 hq3))
            have HBX := Aside0.mk (show Below w1.heap.size w1 w2 from (below_alloc (below_alloc (Below.refl _ w1) _) _).trans (HB2.out.mono (below_alloc (below_alloc (Below.refl _ w1) _) _).size))
            clear HB2 hz2
            generalize hgg : w1.heap.size = g at *
            have HPS := Aside0.mk (prog_S hps2).1
            have hgs2 : g + 1 < w2.heap.size := by omega
            have hgs3 : g < w2.heap.size := by omega
            go_wp2_with (first | (go_at_call 16; (with_reducible refine (program_true ?q1 ?q2 HPS.out).mono ?_); (case q1 => exact Prog3C.below ⟨_, _, _, _, _, _, rfl, rfl, rfl, HV1.out⟩ (by rw [hgg]; exact ((HBX.out.alloc (by omega) _).alloc (by rw [heap_size_alloc]; omega) _))); (case q2 => exact Prog3C.below ⟨_, _, _, _, _, _, rfl, rfl, rfl, HV2.out⟩ (below_alloc (below_alloc (Below.refl _ w2) _) _)); rintro e w3 ⟨rfl, hb⟩; obtain ⟨hgt, _, ⟨hv0, hv1, hv2⟩⟩ := pair_cells hb; have hch : Below w2.heap.size w2 w3 := (below_alloc (below_alloc (Below.refl _ w2) _) _).trans (hb.mono (below_alloc (below_alloc (Below.refl _ w2) _) _).size); have hk0 := (hch.cell hgs2).trans hy0; have hk1 := (hch.cell hgs2).trans hy1; have hk2 := (hch.cell hgs2).trans hy2; have HB3 := Aside0.mk hch; clear hb hch) | (go_at_call 8; (with_reducible refine (works_calls _).mono ?_); rintro e w4 ⟨rfl, hb⟩; have HB4 := Aside0.mk hb; clear hb))
            go_ret
            subst hgg
            exact ⟨rfl, below_step (below_step (below_step (below_step HWC.out HB1.out) HBX.out) HB3.out) HB4.out⟩
end Go.Proofs.Ytdodajpiidkglaa.K
