/- parse.begin: the walk. Condition: the text has at most 2147483647 bytes. parse.caught: the walk, at each of its two closures. Conditions: what the closure leaves of caught's own two cells. -/
import Derived.Test.YtdodajpiidkglaaKGather
import Derived.Defers
import Derived.Recover
namespace Go.Proofs.Ytdodajpiidkglaa.K
open Go.RowKit Go.Proofs.YtdodajpiidkglaaW.PrintWords Go.Proofs.YtdodajpiidkglaaW.PrintLast Go.Proofs.YtdodajpiidkglaaW.PrintMore Go.Proofs.Ytdodajpiidkglaa.PAll
set_option linter.unusedVariables false
set_option linter.unusedSimpArgs false

theorem qd_size : ∀ (l : List UInt8) (st h i : Nat) (acc : List UInt8), (qd st h l i acc).1.length ≤ acc.length + l.length
  | [], st, h, i, acc => by rcases st with _ | _ | _ | st <;> simp [qd]
  | c :: r, st, h, i, acc => by
    have e1 := fun a => qd_size r 0 0 (i + 1) a
    have e2 := fun a => qd_size r 1 0 (i + 1) a
    have e3 := fun a => qd_size r 2 0 (i + 1) a
    have e4 := fun d a => qd_size r 3 d (i + 1) a
    rcases st with _ | _ | _ | st
    · simp only [qd, List.length_cons]
      split
      · show acc.length ≤ _; omega
      · split
        · simp
        · split
          · have := e2 acc; omega
          · have := e1 (acc ++ [c]); simp only [List.length_append, List.length_singleton] at this; omega
    · simp only [qd, List.length_cons]
      split
      · have := e1 (acc ++ [c]); simp only [List.length_append, List.length_singleton] at this; omega
      · split
        · have := e1 (acc ++ [10]); simp only [List.length_append, List.length_singleton] at this; omega
        · split
          · have := e1 (acc ++ [9]); simp only [List.length_append, List.length_singleton] at this; omega
          · split
            · have := e3 acc; omega
            · simp
    · simp only [qd, List.length_cons]
      split
      · simp
      · rename_i d _; have := e4 d acc; omega
    · simp only [qd, List.length_cons]
      split
      · simp
      · rename_i d _; have := e1 (acc ++ [UInt8.ofNat (h * 16 + d)]); simp only [List.length_append, List.length_singleton] at this; omega
theorem nextF_size (l : List UInt8) (i : Nat) : (nextF l i).1.t.size ≤ l.length ∧ (nextF l i).1.a ≤ i := by
  cases l with
  | nil => simp [nextF, Tok.zero, ByteArray.size]
  | cons c r =>
    have hq := qd_size r 0 0 (i + 1) []
    have hw := wrun_len (digB c.toNat) 64 (c :: r)
    simp only [nextF, List.length_cons]
    split
    · simp only [ByteArray.size, List.size_toArray]; simp only [List.length_nil] at hq; exact ⟨by omega, Nat.le_refl _⟩
    · split
      · exact ⟨Nat.zero_le _, Nat.le_refl _⟩
      · split
        · split <;> exact ⟨Nat.zero_le _, Nat.le_refl _⟩
        · split
          · split <;> exact ⟨Nat.zero_le _, Nat.le_refl _⟩
          · split
            · exact ⟨Nat.zero_le _, Nat.zero_le _⟩
            · simp only
              split
              · exact ⟨Nat.zero_le _, Nat.le_refl _⟩
              · simp only [ByteArray.size, List.size_toArray]; simp only [List.length_cons] at hw; exact ⟨by omega, Nat.le_refl _⟩
theorem tokF_size (s : ByteArray) : ∀ (n i : Nat) (j : Option Nat) (acc : List Tok), i ≤ s.size →
    (tokF s n i j acc).1.length ≤ acc.length + (s.size - i) ∧ ((∀ x ∈ acc, x.a ≤ s.size ∧ x.t.size ≤ s.size) → ∀ x ∈ (tokF s n i j acc).1, x.a ≤ s.size ∧ x.t.size ≤ s.size)
  | 0, i, j, acc, hi => ⟨Nat.le_add_right _ _, fun h => h⟩
  | n + 1, i, j, acc, hi => by
    unfold tokF
    split
    · rename_i hlt
      have hend := nextF_end (from_ s i) i
      have hsz := nextF_size (from_ s i) i
      rw [from_len] at hend hsz
      split
      · exact ⟨Nat.le_add_right _ _, fun h => h⟩
      · split
        · exact ⟨Nat.le_add_right _ _, fun h => h⟩
        · rename_i h1 h2
          have ht : (nextF (from_ s i) i).2 = true := by cases h3 : (nextF (from_ s i) i).2 <;> simp_all
          have hb := blk_le (from_ s (nextF (from_ s i) i).1.e) false (nextF (from_ s i) i).1.e
          rw [from_len] at hb
          have h5 := hend.2.1 ht
          obtain ⟨h6, h7⟩ := tokF_size s n (blk false (from_ s (nextF (from_ s i) i).1.e) (nextF (from_ s i) i).1.e) (if isWord (nextF (from_ s i) i).1.k then some (nextF (from_ s i) i).1.e else none) (acc ++ [(nextF (from_ s i) i).1]) (by omega)
          simp only [List.length_append, List.length_singleton] at h6
          refine ⟨by omega, fun h => h7 fun x hx => ?_⟩
          rcases List.mem_append.1 hx with hx | hx
          · exact h x hx
          · rw [List.mem_singleton] at hx; rw [hx]; exact ⟨by omega, by omega⟩
    · exact ⟨Nat.le_add_right _ _, fun h => h⟩
theorem toks_size (s : ByteArray) : (toks s).1.length ≤ s.size ∧ ∀ k, ((src s).at_ k).a ≤ s.size ∧ ((src s).at_ k).t.size ≤ s.size := by
  have hb := blk_le (from_ s 0) false 0
  rw [from_len] at hb
  obtain ⟨h1, h2⟩ := tokF_size s (s.size + 1) (blk false (from_ s 0) 0) none [] (by omega)
  refine ⟨by simp only [List.length_nil] at h1; show (tokF s (s.size + 1) (blk false (from_ s 0) 0) none []).1.length ≤ _; omega, fun k => ?_⟩
  rcases Nat.lt_or_ge k (src s).T.length with hk | hk
  · refine h2 (by simp) _ ?_
    show rd_T71 (src s).T k ∈ (src s).T
    unfold rd_T71
    rw [List.getD_eq_getElem?_getD, List.getElem?_eq_getElem hk]
    exact List.getElem_mem hk
  · rw [at_kind hk]; exact ⟨Nat.zero_le _, Nat.zero_le _⟩

def nil6 : List Value := [.slice none 0 0, .slice none 0 0, .slice none 0 0, .slice none 0 0, .slice none 0 0, .slice none 0 0]
def BeginPostC (s : ByteArray) (c : Src) (w : World) (e : Ending) (w' : World) : Prop := ∃ g L, e = .returned (.pointer (some ⟨g, 0, none⟩)) ∧ IsP w w' g s L c 0 nil6 ∧ Below w.heap.size w w'
def BeginPost (s : ByteArray) (w : World) : Ending → World → Prop := BeginPostC s (src s) w
set_option maxHeartbeats 4000000 in
set_option maxRecDepth 100000 in
theorem begin_calls (s : ByteArray) (hs : s.size ≤ 2147483647) (w : World) : Calls Try.prog 26 #[.string s] w (BeginPost s w) := by
  have HT := Aside0.mk (tokens_calls s hs w)
  have HL := Aside0.mk (toks_size s).1
  show Calls _ _ _ w (BeginPostC s ⟨(toks s).1, (toks s).2.1, (toks s).2.2.1⟩ w)
  have hT := HT.out
  unfold TokPost at hT
  clear HT
  generalize toks s = R at hT HL ⊢
  obtain ⟨T, o, far, er⟩ := R
  simp only [tokV] at hT
  have HT := Aside0.mk hT
  clear hT
  go_enter Try.func26, Try.ntmps26
  go_wp2_with (go_at_call 51; (refine HT.out.mono ?_); rintro e w2 ⟨v, rfl, hv, hb⟩; obtain ⟨A, cc, rfl⟩ := Kd.R_slice hv; have HV := Aside0.mk hv; have HB := Aside0.mk hb; clear hv hb)
  go_ret
  have hz : (w2.alloc (.cells #[.int .i64 (o.k : Int), .string o.t, .int .i64 (o.a : Int), .int .i64 (o.e : Int)] 71)).heap.size = w2.heap.size + 1 := by simp
  refine ⟨_, .slice A T.length cc, rfl, ⟨?_, ?_, ?_, ?_⟩, ?_⟩
  · show PBlk _ _ s _ _ 0 nil6
    unfold PBlk
    rw [← hz]
    exact blk_new _ _
  · have := HB.out.size; omega
  · refine Kd.R_alloc (Kd.R_alloc (Kd.R_mono (Kd.R_bound HV.out) (fun k hk => ?_)) _) _
    have := hk.2.2.1
    omega
  · have := HL.out; simp only at this ⊢; omega
  · exact below_alloc (below_alloc HB.out _) _
end Go.Proofs.Ytdodajpiidkglaa.K

namespace Go.Proofs.Ytdodajpiidkglaa.K
open Go.RowKit Go.Proofs.YtdodajpiidkglaaW.PrintWords Go.Proofs.YtdodajpiidkglaaW.PrintLast Go.Proofs.YtdodajpiidkglaaW.PrintMore Go.Proofs.Ytdodajpiidkglaa.PAll
set_option linter.unusedVariables false
set_option linter.unusedSimpArgs false

/-- The world in which caught calls. -/
def CW (w : World) : World := (w.alloc (.cells #[.int .i64 0] 3)).alloc (.cells #[.int .i64 0] 30)
/-- caught's two cells as they were laid. -/
def Laid (w w1 : World) : Prop := w1.heap[w.heap.size]? = some (.cells #[.int .i64 0] 3 (0, 0)) ∧ w1.heap[w.heap.size + 1]? = some (.cells #[.int .i64 0] 30 (0, 0))
/-- Nothing of w1 but caught's two cells has turned. -/
def Turned (w w1 w' : World) : Prop := Below w.heap.size w1 w' ∧ ∀ k, k < w1.heap.size → k ≠ w.heap.size → k ≠ w.heap.size + 1 → w'.heap[k]? = w1.heap[k]?
theorem one_cell {W : World} {b t : Nat} {v : Value} (h : W.heap[b]? = some (.cells #[v] t (0, 0))) : W.cell? ⟨b, 0, none⟩ = some v ∧ W.frozen? ⟨b, 0, none⟩ = false :=
  ⟨(blk_cell h 0).trans rfl, blk_frozen h 0⟩

theorem assert_fault (v : Value) (w : World) : (Instr.typeAssert (.iface 102 (.agg #[v])) 20 102 true).run Try.prog w = .ok (.tuple #[.agg #[v], .bool true]) w := by kernel_rfl
set_option maxHeartbeats 4000000 in
set_option maxRecDepth 100000 in
theorem catch_panicking (a b : Nat) (x : Nat) (w : World) (h0 : w.cell? ⟨a, 0, none⟩ = some (.int .i64 0)) (f0 : w.frozen? ⟨a, 0, none⟩ = false) (h1 : w.cell? ⟨b, 0, none⟩ = some (.int .i64 0)) (f1 : w.frozen? ⟨b, 0, none⟩ = false) (hab : a ≠ b) (ha : a < w.heap.size) (hb : b < w.heap.size) :
    CallsD Try.prog 52 #[.pointer (some ⟨a, 0, none⟩), .pointer (some ⟨b, 0, none⟩)] (.panicking [{ v := faultV x, recovered := false }]) w fun e u' w' =>
      e = .returned (.tuple #[]) ∧ u' = .panicking [{ v := faultV x, recovered := true }] ∧ w' = ((w.setCell ⟨a, 0, none⟩ (.int .i64 (x : Int))).setCell ⟨b, 0, none⟩ (.int .i64 11)).alloc (.cells #[.int .i64 (x : Int)] 102) := by
  refine callsD_of_wpS Try.func52 rfl fun c₀ cs hu => ?_
  apply wpS_seq
  apply wpS_region
  simp [wpOpsS, go_sem, recoverD, hu, Try.ntmps52, Exit.thenS, faultV]
  have hta := assert_fault (.int .i64 (x : Int))
  refine wpS_of_wp ?_
  change Code.wp _ _ _ ⟨#[.pointer (some ⟨a, 0, none⟩), .pointer (some ⟨b, 0, none⟩), .iface 102 (.agg #[.int .i64 (x : Int)]), undef, undef, .iface 102 (.agg #[.int .i64 (x : Int)]), undef, undef, undef, undef, undef, undef, undef, undef, undef, undef, undef, undef], []⟩ w
  go_wp2
  simp [bodyPostS, results, Try.results52]

set_option maxHeartbeats 4000000 in
set_option maxRecDepth 100000 in
theorem catch_idle (a b : Nat) (w : World) :
    CallsD Try.prog 52 #[.pointer (some ⟨a, 0, none⟩), .pointer (some ⟨b, 0, none⟩)] .returning w fun e u' w' => e = .returned (.tuple #[]) ∧ u' = .returning ∧ w' = w := by
  refine callsD_of_wpS Try.func52 rfl fun c₀ cs hu => ?_
  apply wpS_seq
  apply wpS_region
  simp [wpOpsS, go_sem, recoverD, hu, Try.ntmps52, Exit.thenS]
  refine wpS_of_wp ?_
  change Code.wp _ _ _ ⟨#[.pointer (some ⟨a, 0, none⟩), .pointer (some ⟨b, 0, none⟩), .nilIface, undef, undef, .nilIface, undef, undef, undef, undef, undef, undef, undef, undef, undef, undef, undef, undef], []⟩ w
  go_wp2
  cases c₀
  simp_all [bodyPostS, results, Try.results52]

def CaughtOk (w : World) (R : World → Prop) (e : Ending) (w' : World) : Prop := e = .returned (.tuple #[.int .i64 0, .int .i64 0]) ∧ ∃ w1, R w1 ∧ Turned w w1 w'
def CaughtErr (w : World) (x : Nat) (R : World → Prop) (e : Ending) (w' : World) : Prop := e = .returned (.tuple #[.int .i64 (x : Int), .int .i64 11]) ∧ ∃ w1, R w1 ∧ Turned w w1 w'

theorem turned2 (w w1 : World) (u v : Value) : Turned w w1 ((w1.setCell ⟨w.heap.size, 0, none⟩ u).setCell ⟨w.heap.size + 1, 0, none⟩ v) :=
  ⟨((Below.refl _ _).setCell (p := ⟨w.heap.size, 0, none⟩) (Nat.le_refl _) u).setCell (p := ⟨w.heap.size + 1, 0, none⟩) (Nat.le_succ _) v, fun k _ h1 h2 => (Below.heap_setCell _ ⟨w.heap.size + 1, 0, none⟩ v k h2).trans (Below.heap_setCell w1 ⟨w.heap.size, 0, none⟩ u k h1)⟩
theorem Turned.alloc {w w1 w' : World} (h : Turned w w1 w') (hl : w.heap.size ≤ w1.heap.size) (o : Obj) : Turned w w1 (w'.alloc o) :=
  ⟨h.1.alloc (Nat.le_trans hl h.1.size) o, fun k hk h1 h2 => ((World.grownBy_alloc w' o none).block k (Nat.lt_of_lt_of_le hk h.1.size) (by simp)).trans (h.2 k hk h1 h2)⟩

set_option maxHeartbeats 4000000 in
set_option maxRecDepth 100000 in
theorem caught_ok {F : FuncId} {caps : Array Value} {w : World} {R : World → Prop} (hE : ∀ args w, (callFunc F args).run Try.prog w = .ok (.enter F args) w) (hf : Calls Try.prog F caps (CW w) fun e w' => e = .returned (.tuple #[]) ∧ R w') (hR : ∀ w', R w' → Laid w w') :
    Calls Try.prog 27 #[.func (.func F) #[] caps] w (CaughtOk w R) := by
  have hmf : ∀ (fn : Fn) (first cap : Array Value) (w : World), (Instr.makeFunc fn first cap).run Try.prog w = .ok (.func fn first cap) w := fun _ _ _ _ => rfl
  have HF := Aside0.mk hf
  have HR := Aside0.mk hR
  clear hf hR
  go_enter_defers Try.func27, Try.ntmps27
  go_wp2_with (fail)
  refine HF.out.mono ?_
  rintro e w1 ⟨rfl, hr⟩
  obtain ⟨h0, h1⟩ := HR.out w1 hr
  obtain ⟨c0, f0⟩ := one_cell h0
  obtain ⟨c1, f1⟩ := one_cell h1
  have HQ := Aside0.mk hr
  have R0 := Aside0.mk (one_cell (blk_put (cs' := #[.int .i64 0]) h0 0 (.int .i64 0) rfl)).1
  have R1 := Aside0.mk (one_cell (blk_put (cs' := #[.int .i64 0]) (blk_far (p := ⟨w.heap.size, 0, none⟩) h1 (by simp) (.int .i64 0)) 0 (.int .i64 0) rfl)).1
  clear hr h0 h1 hE
  go_wp2
  refine leaves_cons (f := 52) (args := #[.pointer (some ⟨w.heap.size, 0, none⟩), .pointer (some ⟨w.heap.size + 1, 0, none⟩)]) (by simp) (by simp [go_sem]) ?_
  refine (catch_idle _ _ _).mono ?_
  rintro e u' w'' ⟨rfl, rfl, rfl⟩
  have r0 := R0.out
  have r1 := R1.out
  simp [Leaves, settle, results, Try.results27, go_sem, r0, r1]
  exact ⟨rfl, w1, HQ.out, turned2 _ _ _ _⟩

set_option maxHeartbeats 4000000 in
set_option maxRecDepth 100000 in
theorem caught_err {F : FuncId} {caps : Array Value} {w : World} {x : Nat} {R : World → Prop} (hE : ∀ args w, (callFunc F args).run Try.prog w = .ok (.enter F args) w) (hf : Calls Try.prog F caps (CW w) fun e w' => e = faultE x ∧ R w') (hR : ∀ w', R w' → Laid w w') :
    Calls Try.prog 27 #[.func (.func F) #[] caps] w (CaughtErr w x R) := by
  have hmf : ∀ (fn : Fn) (first cap : Array Value) (w : World), (Instr.makeFunc fn first cap).run Try.prog w = .ok (.func fn first cap) w := fun _ _ _ _ => rfl
  have HF := Aside0.mk hf
  have HR := Aside0.mk hR
  clear hf hR
  go_enter_defers Try.func27, Try.ntmps27
  go_wp2_with (fail)
  refine HF.out.mono ?_
  rintro e w1 ⟨rfl, hr⟩
  obtain ⟨h0, h1⟩ := HR.out w1 hr
  obtain ⟨c0, f0⟩ := one_cell h0
  obtain ⟨c1, f1⟩ := one_cell h1
  have l0 := blk_lt h0
  have l1 := blk_lt h1
  have HQ := Aside0.mk hr
  have R0 := Aside0.mk (one_cell (blk_put (cs' := #[.int .i64 (x : Int)]) h0 0 (.int .i64 (x : Int)) rfl)).1
  have R1 := Aside0.mk (one_cell (blk_put (cs' := #[.int .i64 11]) (blk_far (p := ⟨w.heap.size, 0, none⟩) h1 (by simp) (.int .i64 (x : Int))) 0 (.int .i64 11) rfl)).1
  clear hr h0 h1 hE
  simp only [faultE]
  refine leaves_cons (f := 52) (args := #[.pointer (some ⟨w.heap.size, 0, none⟩), .pointer (some ⟨w.heap.size + 1, 0, none⟩)]) (by simp) (by simp [go_sem]) ?_
  refine (catch_panicking _ _ x _ c0 f0 c1 f1 (by omega) l0 l1).mono ?_
  rintro e u' w'' ⟨rfl, rfl, rfl⟩
  have r0 := R0.out
  have r1 := R1.out
  simp [Leaves, settle, results, Try.results27, go_sem, r0, r1, l0, l1]
  exact ⟨rfl, w1, HQ.out, (turned2 _ _ _ _).alloc (Nat.le_of_lt l0) _⟩


end Go.Proofs.Ytdodajpiidkglaa.K
