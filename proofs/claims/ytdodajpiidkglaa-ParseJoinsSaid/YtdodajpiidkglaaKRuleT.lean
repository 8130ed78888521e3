/- parse.Rule: the walk. Condition: the text has at most 2147483647 bytes. -/
import Derived.Test.YtdodajpiidkglaaKRuleF
import Derived.Test.YtdodajpiidkglaaKProgram
namespace Go.Proofs.Ytdodajpiidkglaa.K
open Go.RowKit Go.Proofs.YtdodajpiidkglaaW.PrintWords Go.Proofs.YtdodajpiidkglaaW.PrintLast Go.Proofs.YtdodajpiidkglaaW.PrintMore Go.Proofs.Ytdodajpiidkglaa.PAll
set_option linter.unusedVariables false
set_option linter.unusedSimpArgs false

/-- The world in which parse.Rule calls caught. -/
def WB (w1 : World) (g : Nat) : World := (w1.alloc (.cells #[.pointer (some ⟨g, 0, none⟩)] 64)).alloc (.cells #[.string ⟨#[]⟩, .slice none 0 0, .slice none 0 0] 29)
theorem wb_size (w1 : World) (g : Nat) : (WB w1 g).heap.size = w1.heap.size + 2 := by unfold WB; simp
theorem wb_p (w1 : World) (g : Nat) : (WB w1 g).heap[w1.heap.size]? = some (.cells #[.pointer (some ⟨g, 0, none⟩)] 64 (0, 0)) := blk_alloc (blk_new _ _) _
theorem wb_r (w1 : World) (g : Nat) : (WB w1 g).heap[w1.heap.size + 1]? = some (.cells #[.string ⟨#[]⟩, .slice none 0 0, .slice none 0 0] 29 (0, 0)) := by
  have hz : (w1.alloc (.cells #[.pointer (some ⟨g, 0, none⟩)] 64)).heap.size = w1.heap.size + 1 := by simp
  unfold WB
  rw [← hz]
  exact blk_new _ _
def InR (wa w1 : World) (g : Nat) (x : S29) (w' : World) : Prop :=
  KeepR (CW (WB w1 g)) w' g (w1.heap.size + 1) ∧ Below wa.heap.size wa w' ∧ ∃ v1 v2, w'.heap[w1.heap.size + 1]? = some (.cells #[.string x.f0.f0, v1, v2] 29 (0, 0)) ∧
    Kd.R k61 61 w' (CW (WB w1 g)).heap.size (fun k => (CW (WB w1 g)).heap.size ≤ k) v1 x.f0.f1 ∧ Kd.R k63 63 w' (CW (WB w1 g)).heap.size (fun k => (CW (WB w1 g)).heap.size ≤ k) v2 x.f1
def InRE (wa w1 : World) (g : Nat) (w' : World) : Prop := KeepR (CW (WB w1 g)) w' g (w1.heap.size + 1) ∧ Below wa.heap.size wa w'
theorem enterR (args : Array Value) (w : World) : (callFunc 28 args).run Try.prog w = .ok (.enter 28 args) w := by kernel_rfl
section
variable {wa w1 : World} {g X : Nat} {s : ByteArray} {L : Value} {c : Src}
theorem rf_start (hp : IsP wa w1 g s L c 0 nil6) (hB : Below wa.heap.size wa w1) (hX : wa.heap[X]? = some (.cells #[.string s] 9 (0, 0))) :
    Calls Try.prog 28 #[.pointer (some ⟨w1.heap.size, 0, none⟩), .pointer (some ⟨w1.heap.size + 1, 0, none⟩), .pointer (some ⟨X, 0, none⟩)] (CW (WB w1 g)) (RFEnd wa (CW (WB w1 g)) g (w1.heap.size + 1) (ruleC c s.size)) := by
  have hgl := hp.lt
  have hxl := blk_lt hX
  have hsz := hB.size
  have hg := hp.ge
  have h1 := (hB.block X hxl).trans hX
  refine ruleF_calls ((((hp.alloc _).alloc _).alloc _).alloc _) (below_alloc (below_alloc (below_alloc (below_alloc hB _) _) _) _) (blk_alloc (blk_alloc (wb_p w1 g) _) _) (blk_alloc (blk_alloc (blk_alloc (blk_alloc h1 _) _) _) _) (blk_alloc (blk_alloc (wb_r w1 g) _) _) ⟨by omega, by omega, by omega, by omega, by omega, by omega, fun k hk => ?_⟩
  have := hp.own_lt k hk
  omega
theorem laid_of (w1 : World) (g : Nat) (hg : g < w1.heap.size) {w' : World} (h : KeepR (CW (WB w1 g)) w' g (w1.heap.size + 1)) : Laid (WB w1 g) w' := by
  have hl := cw_laid (WB w1 g)
  have hz := cw_size (WB w1 g)
  have hz2 := wb_size w1 g
  exact ⟨(h.2 _ (by omega) (by omega) (by omega)).trans hl.1, (h.2 _ (by omega) (by omega) (by omega)).trans hl.2⟩
theorem rule_caught_ok {x : S29} {j : Nat} (hr : ruleC c s.size = .ok (x, j)) (hp : IsP wa w1 g s L c 0 nil6) (hB : Below wa.heap.size wa w1) (hX : wa.heap[X]? = some (.cells #[.string s] 9 (0, 0))) :
    Calls Try.prog 27 #[.func (.func 28) #[] #[.pointer (some ⟨w1.heap.size, 0, none⟩), .pointer (some ⟨w1.heap.size + 1, 0, none⟩), .pointer (some ⟨X, 0, none⟩)]] ((w1.alloc (.cells #[.pointer (some ⟨g, 0, none⟩)] 64)).alloc (.cells #[.string ⟨#[]⟩, .slice none 0 0, .slice none 0 0] 29)) (CaughtOk (WB w1 g) (InR wa w1 g x)) := by
  refine caught_ok (w := WB w1 g) enterR ((rf_start hp hB hX).mono fun e w' h => ?_) (fun w' h => laid_of w1 g hp.lt h.1)
  rw [hr] at h
  obtain ⟨h1, h2, v1, v2, h3, h4, h5, h6⟩ := h
  exact ⟨h3, h1, h2, v1, v2, h4, h5, h6⟩
theorem rule_caught_err {a : Nat} (hr : ruleC c s.size = .error a) (hp : IsP wa w1 g s L c 0 nil6) (hB : Below wa.heap.size wa w1) (hX : wa.heap[X]? = some (.cells #[.string s] 9 (0, 0))) :
    Calls Try.prog 27 #[.func (.func 28) #[] #[.pointer (some ⟨w1.heap.size, 0, none⟩), .pointer (some ⟨w1.heap.size + 1, 0, none⟩), .pointer (some ⟨X, 0, none⟩)]] ((w1.alloc (.cells #[.pointer (some ⟨g, 0, none⟩)] 64)).alloc (.cells #[.string ⟨#[]⟩, .slice none 0 0, .slice none 0 0] 29)) (CaughtErr (WB w1 g) a (InRE wa w1 g)) := by
  refine caught_err (w := WB w1 g) enterR ((rf_start hp hB hX).mono fun e w' h => ?_) (fun w' h => laid_of w1 g hp.lt h.1)
  rw [hr] at h
  obtain ⟨h1, h2, h3⟩ := h
  exact ⟨h3, h1, h2⟩
end
theorem old_err2 {wa w1 w2 w3 : World} {g : Nat} (hB1 : Below wa.heap.size wa w1) (h : Below wa.heap.size wa w2) (ht : Turned (WB w1 g) w2 w3) : Below wa.heap.size wa w3 := by
  have hz := wb_size w1 g
  exact Below.trans h (ht.1.mono (by have := hB1.size; omega))
theorem lr2 (w : World) (s : ByteArray) : ((w.alloc (.cells #[.string s] 9)).alloc (.cells #[.string ⟨#[]⟩, .slice none 0 0, .slice none 0 0] 29)).heap[w.heap.size + 1]? = some (.cells #[.string ⟨#[]⟩, .slice none 0 0, .slice none 0 0] 29 (0, 0)) := by
  have hz : (w.alloc (.cells #[.string s] 9)).heap.size = w.heap.size + 1 := by simp
  rw [← hz]
  exact blk_new _ _
theorem rt_move {α : Type} {d : Kd α} {e : Nat} {w w1 w2 w3 : World} {g : Nat} {v : Value} {xs : List α} (h : d.R e w2 (CW (WB w1 g)).heap.size (fun k => (CW (WB w1 g)).heap.size ≤ k) v xs) (ht : Turned (WB w1 g) w2 w3) (h1 : w.heap.size ≤ w1.heap.size) {b : Nat} (hb : b < w1.heap.size) (u0 u1 u2 : Value) :
    d.R e (((w3.setCell ⟨b, 0, none⟩ u0).setCell ⟨b, 1, none⟩ u1).setCell ⟨b, 2, none⟩ u2) w.heap.size (fun k => w.heap.size ≤ k) v xs := by
  have hz := cw_size (WB w1 g)
  have hz2 := wb_size w1 g
  refine R3 (Kd.R_lower (base := (CW (WB w1 g)).heap.size) (Kd.R_mono (ok := fun k => (CW (WB w1 g)).heap.size ≤ k) (ok' := fun k => w.heap.size ≤ k ∧ k ≠ b) (Kd.R_mono (Kd.R_move (Kd.R_bound h) (fun k hk => ht.2 k hk.2.2.1 (by have := hk.1; omega) (by have := hk.1; omega))) (fun k hk => hk.1)) (fun k hk => ⟨by omega, by omega⟩)) (by omega)) (fun k hk => hk.2) _ _ _ |> fun h => Kd.R_mono h (fun k hk => hk.1)
/-- What parse.Rule answers. -/
def RulePost (s : ByteArray) (w : World) (e : Ending) (w' : World) : Prop :=
  Below w.heap.size w w' ∧ match ruleT s with
  | .ok x => ∃ v1 v2, e = .returned (.tuple #[.agg #[.string x.f0.f0, v1, v2], .int .i64 0, .int .i64 0]) ∧ Kd.R k61 61 w' w.heap.size (fun k => w.heap.size ≤ k) v1 x.f0.f1 ∧ Kd.R k63 63 w' w.heap.size (fun k => w.heap.size ≤ k) v2 x.f1
  | .error a => e = .returned (.tuple #[.agg #[.string ⟨#[]⟩, .slice none 0 0, .slice none 0 0], .int .i64 (a : Int), .int .i64 11])
set_option maxHeartbeats 8000000 in
set_option maxRecDepth 100000 in
theorem ruleT_err {s : ByteArray} {a : Nat} (hs : s.size ≤ 2147483647) (hr : ruleC (src s) s.size = .error a) (w : World) :
    Calls Try.prog 9 #[.string s] w fun e w' => Below w.heap.size w w' ∧ e = .returned (.tuple #[.agg #[.string ⟨#[]⟩, .slice none 0 0, .slice none 0 0], .int .i64 (a : Int), .int .i64 11]) := by
  have hmf : ∀ (fn : Fn) (first cap : Array Value) (w : World), (Instr.makeFunc fn first cap).run Try.prog w = .ok (.func fn first cap) w := fun _ _ _ _ => rfl
  have HR := Aside0.mk hr
  have HS := Aside0.mk hs
  clear hr hs
  go_enter Try.func9, Try.ntmps9
  go_wp2_with (first | (go_at_call 26; (with_reducible refine (begin_calls s HS.out _).mono ?_); rintro e w1 ⟨g, L, rfl, hp, hb⟩; have HP := Aside0.mk hp; have HB := Aside0.mk hb; have hz1 := hb.size; clear hp hb) | (go_at_call 27; (with_reducible refine (rule_caught_err HR.out HP.out HB.out ?t2).mono ?_); (case t2 => exact blk_alloc (blk_new w _) _); rintro e w3 ⟨rfl, w2, hin, htu⟩; have HB3 := Aside0.mk (old_err2 HB.out hin.2 htu); have H2 := Aside0.mk (show w3.heap[w.heap.size + 1]? = some (.cells #[.string ⟨#[]⟩, .slice none 0 0, .slice none 0 0] 29 (0, 0)) from (HB3.out.block _ (by simp)).trans (lr2 w s)); obtain ⟨b0, b1, b2, b3, b4, b5⟩ := cells3 H2.out; have hl2 := blk_lt H2.out; clear hin htu))
  have hwa := Aside0.mk (below_alloc (below_alloc (Below.refl w.heap.size w) (.cells #[.string s] 9)) (.cells #[.string ⟨#[]⟩, .slice none 0 0, .slice none 0 0] 29))
  refine bodyPost_ret (results_list (rs := [.cell 2 29, .tmp 3, .tmp 4]) rfl (by simp) (.cell (w.heap.size + 1) 29 _ (0, 0) _ rfl (blk3 H2.out) Try.underlying29 rfl info29s (.tmp (.tmp .nil)))) rfl ⟨?_, rfl⟩
  exact below3 (Below.trans hwa.out (HB3.out.mono (by simp; omega))) (by omega) _ _ _
set_option maxHeartbeats 8000000 in
set_option maxRecDepth 100000 in
theorem ruleT_ok {s : ByteArray} {x : S29} {j : Nat} (hs : s.size ≤ 2147483647) (hr : ruleC (src s) s.size = .ok (x, j)) (w : World) :
    Calls Try.prog 9 #[.string s] w fun e w' => ∃ v1 v2, e = .returned (.tuple #[.agg #[.string x.f0.f0, v1, v2], .int .i64 0, .int .i64 0]) ∧ Below w.heap.size w w' ∧ Kd.R k61 61 w' w.heap.size (fun k => w.heap.size ≤ k) v1 x.f0.f1 ∧ Kd.R k63 63 w' w.heap.size (fun k => w.heap.size ≤ k) v2 x.f1 := by
  have hmf : ∀ (fn : Fn) (first cap : Array Value) (w : World), (Instr.makeFunc fn first cap).run Try.prog w = .ok (.func fn first cap) w := fun _ _ _ _ => rfl
  have HR := Aside0.mk hr
  have HS := Aside0.mk hs
  clear hr hs
  go_enter Try.func9, Try.ntmps9
  go_wp2_with (first | (go_at_call 26; (with_reducible refine (begin_calls s HS.out _).mono ?_); rintro e w1 ⟨g, L, rfl, hp, hb⟩; have HP := Aside0.mk hp; have HB := Aside0.mk hb; have hz1 := hb.size; have hgl := hp.lt; clear hp hb) | (go_at_call 27; (with_reducible refine (rule_caught_ok HR.out HP.out HB.out ?t2).mono ?_); (case t2 => exact blk_alloc (blk_new w _) _); rintro e w3 ⟨rfl, w2, hin, htu⟩; obtain ⟨hin1, hin2, v1, v2, hin3, hin4, hin5⟩ := hin; obtain ⟨a1, c1, rfl⟩ := Kd.R_slice hin4; obtain ⟨a2, c2, rfl⟩ := Kd.R_slice hin5; have HR1 := Aside0.mk hin4; have HR2 := Aside0.mk hin5; have HTU := Aside0.mk htu; have HB3 := Aside0.mk (old_err2 HB.out hin2 htu); have HRB := Aside0.mk (show w3.heap[w1.heap.size + 1]? = some (.cells #[.string x.f0.f0, .slice a1 x.f0.f1.length c1, .slice a2 x.f1.length c2] 29 (0, 0)) from (htu.2 _ (blk_lt hin3) (by have := wb_size w1 g; omega) (by have := wb_size w1 g; omega)).trans hin3); have H2 := Aside0.mk (show w3.heap[w.heap.size + 1]? = some (.cells #[.string ⟨#[]⟩, .slice none 0 0, .slice none 0 0] 29 (0, 0)) from (HB3.out.block _ (by simp)).trans (lr2 w s)); obtain ⟨b0, b1, b2, b3, b4, b5⟩ := cells3 H2.out; obtain ⟨e0, e1, e2, e3, e4, e5⟩ := cells3 HRB.out; clear e3 e4 e5; have hl2 := blk_lt H2.out; clear hin1 hin2 hin3 hin4 hin5 htu))
  have hwa := Aside0.mk (below_alloc (below_alloc (Below.refl w.heap.size w) (.cells #[.string s] 9)) (.cells #[.string ⟨#[]⟩, .slice none 0 0, .slice none 0 0] 29))
  refine bodyPost_ret (results_list (rs := [.cell 2 29, .tmp 3, .tmp 4]) rfl (by simp) (.cell (w.heap.size + 1) 29 _ (0, 0) _ rfl (blk3 H2.out) Try.underlying29 rfl info29s (.tmp (.tmp .nil)))) rfl ⟨_, _, rfl, ?_, ?_, ?_⟩
  · exact below3 (Below.trans hwa.out (HB3.out.mono (by simp; omega))) (by omega) _ _ _
  · exact rt_move HR1.out HTU.out (by simp at hz1; omega) (by simp at hz1; omega) _ _ _
  · exact rt_move HR2.out HTU.out (by simp at hz1; omega) (by simp at hz1; omega) _ _ _
theorem ruleT_calls (s : ByteArray) (hs : s.size ≤ 2147483647) (w : World) : Calls Try.prog 9 #[.string s] w (RulePost s w) := by
  cases hr : ruleC (src s) s.size with
  | error a =>
    refine (ruleT_err hs hr w).mono fun e w' h => ?_
    unfold RulePost ruleT
    rw [hr]; exact h
  | ok r =>
    obtain ⟨x, j⟩ := r
    refine (ruleT_ok hs hr w).mono fun e w' h => ?_
    obtain ⟨v1, v2, h1, h2, h3, h4⟩ := h
    unfold RulePost ruleT
    rw [hr]; exact ⟨h2, v1, v2, h1, h3, h4⟩
end Go.Proofs.Ytdodajpiidkglaa.K
