/- parse.Begins, inklinglaw08.works: the walks. Condition: the text has at most 2147483647 bytes. -/
import Derived.Test.YtdodajpiidkglaaKRuleT
import Derived.Test.YtdodajpiidkglaaGLex
namespace Go.Proofs.Ytdodajpiidkglaa.K
open Go.RowKit Go.Proofs.YtdodajpiidkglaaW.PrintWords Go.Proofs.YtdodajpiidkglaaW.PrintLast Go.Proofs.YtdodajpiidkglaaW.PrintMore Go.Proofs.Ytdodajpiidkglaa.PAll
set_option linter.unusedVariables false
set_option linter.unusedSimpArgs false

def BeginsPost (w : World) (b : Bool) (e : Ending) (w' : World) : Prop := e = .returned (.bool b) ∧ Below w.heap.size w w'
theorem prog_err_of {s : ByteArray} {a : Nat} (hr : programP s = .error a) {w : World} {e : Ending} {w' : World} (h : ProgPost s w e w') : Below w.heap.size w w' ∧ e = .returned (.tuple #[.agg #[.slice none 0 0, .slice none 0 0, .slice none 0 0], .agg #[.slice none 0 0, .slice none 0 0, .slice none 0 0], .int .i64 (a : Int), .int .i64 11]) := by
  unfold ProgPost at h
  rw [hr] at h; exact h
theorem rule_ok_of {s : ByteArray} {x : S29} (hr : ruleT s = .ok x) {w : World} {e : Ending} {w' : World} (h : RulePost s w e w') : Below w.heap.size w w' ∧ ∃ a1 c1 a2 c2, e = .returned (.tuple #[.agg #[.string x.f0.f0, .slice a1 x.f0.f1.length c1, .slice a2 x.f1.length c2], .int .i64 0, .int .i64 0]) ∧ Kd.R k61 61 w' w.heap.size (fun k => w.heap.size ≤ k) (.slice a1 x.f0.f1.length c1) x.f0.f1 ∧ Kd.R k63 63 w' w.heap.size (fun k => w.heap.size ≤ k) (.slice a2 x.f1.length c2) x.f1 := by
  unfold RulePost at h
  rw [hr] at h
  obtain ⟨hb, v1, v2, h1, h2, h3⟩ := h
  obtain ⟨a1, c1, rfl⟩ := Kd.R_slice h2
  obtain ⟨a2, c2, rfl⟩ := Kd.R_slice h3
  exact ⟨hb, a1, c1, a2, c2, h1, h2, h3⟩
set_option maxHeartbeats 4000000 in
set_option maxRecDepth 100000 in
theorem begins_err {s : ByteArray} {a : Nat} (hs : s.size ≤ 2147483647) (hr : programP s = .error a) {b : Bool} (hb : ((a : Int) == (s.size : Int)) = b) (w : World) : Calls Try.prog 25 #[.string s] w (BeginsPost w b) := by
  have HR := Aside0.mk hr
  clear hr
  go_enter Try.func25, Try.ntmps25
  go_wp2_with (go_at_call 14; (with_reducible refine (program_calls s hs _).mono ?_); rintro e w1 hpost; obtain ⟨hb1, rfl⟩ := prog_err_of HR.out hpost; have HB := Aside0.mk hb1; clear hpost hb1)
  go_ret
  exact ⟨rfl, below_alloc (below_alloc HB.out _) _⟩


abbrev s1 : ByteArray := ⟨#[112, 40, 88, 41, 32, 58, 45, 32, 113, 40, 88, 41, 44, 32, 110, 111, 116, 32, 114, 44, 32, 88, 32, 33, 61, 32, 53, 46]⟩
abbrev s2 : ByteArray := ⟨#[112, 40, 88, 41, 32, 58, 45, 32, 113, 32, 88, 46]⟩
abbrev s3 : ByteArray := ⟨#[112, 40]⟩
abbrev s4 : ByteArray := ⟨#[112, 41]⟩
def str (l : List UInt8) : ByteArray := ⟨l.toArray⟩
def x1 : S29 := ⟨⟨str [112], [⟨true, str [88]⟩]⟩, [⟨1, ⟨str [113], [⟨true, str [88]⟩]⟩, z61, z61⟩, ⟨2, ⟨str [114], []⟩, z61, z61⟩, ⟨3, z26, ⟨true, str [88]⟩, ⟨false, str [53]⟩⟩]⟩
theorem ev1 : ruleT s1 = .ok x1 := by kernel_rfl
theorem ev2 : programP s2 = .error 10 := by kernel_rfl
theorem ev3 : programP s3 = .error 2 := by kernel_rfl
theorem ev4 : programP s4 = .error 1 := by kernel_rfl

theorem begins3 (w : World) : Calls Try.prog 25 #[.string s3] w (BeginsPost w true) := begins_err (by decide) ev3 (by decide) w
theorem begins4 (w : World) : Calls Try.prog 25 #[.string s4] w (BeginsPost w false) := begins_err (by decide) ev4 (by decide) w
theorem num_calls (n : Int) (w : World) : Calls Try.prog 12 #[.int .i64 n] w fun e w' => e = .returned (.int .i64 n) ∧ w = w' := by
  go_enter Try.func12, Try.ntmps12
  go_wp2
  go_ret
  exact ⟨rfl, rfl⟩
theorem own_head {w : World} {base : Nat} {e : TypeId} {size n : Nat} {ad : Addr} {m c : Nat} {xs : List Value} (h : w.ownsRow base e size (.slice (some ad) m c) n xs) : ∃ g, ad = ⟨g, 0, none⟩ := by
  rcases h.2 with ⟨h1, _⟩ | ⟨g, cap, cur, h1, _⟩
  · cases h1
  · injection h1 with h1; injection h1 with h1; exact ⟨g, h1⟩
theorem add0 (g j : Nat) : (Addr.add ⟨g, 0, none⟩ j) = (⟨g, j, none⟩ : Addr) := by simp only [Addr.add]; split <;> simp_all
theorem rule1 {w : World} {e : Ending} {w' : World} (h : RulePost s1 w e w') : Below w.heap.size w w' ∧ ∃ a1 c1 g c2, e = .returned (.tuple #[.agg #[.string ⟨#[112]⟩, .slice a1 1 c1, .slice (some ⟨g, 0, none⟩) 3 c2], .int .i64 0, .int .i64 0]) ∧ w'.cell? ⟨g, 7, none⟩ = some (.int .i64 2) ∧ w'.cell? ⟨g, 20, none⟩ = some (.string ⟨#[53]⟩) := by
  obtain ⟨hb, a1, c1, a2, c2, he, _, hr⟩ := rule_ok_of ev1 h
  obtain ⟨A, cc, e1, _, hC⟩ := Kd.R_reads hr
  obtain ⟨inner, ho⟩ := Kd.R_own hr
  injection e1 with e1 _ e2
  subst e1
  obtain ⟨ad, A2, k2, ea, h0, h1⟩ := at_T63 hC 1 (by decide) (by decide)
  obtain ⟨ad', A3, k3, ea', g0, g1, g2, g3, g4, g5, g6, _⟩ := at_T63 hC 2 (by decide) (by decide)
  subst ea
  injection ea' with ea'
  subst ea'
  obtain ⟨g, rfl⟩ := own_head ho
  rw [add0] at h0 g6
  exact ⟨hb, a1, c1, g, c2, he, h0, g6⟩
set_option maxHeartbeats 4000000 in
set_option maxRecDepth 100000 in
theorem works_calls (w : World) : Calls Try.prog 8 #[] w (BeginsPost w true) := by
  go_enter Try.func8, Try.ntmps8
  go_upto_region 3 with (first | (go_at_call 9; (with_reducible refine (ruleT_calls s1 (by decide) _).mono ?_); rintro e w1 hpost; obtain ⟨hb1, a1, c1, g, c2, rfl, y1, y2⟩ := rule1 hpost; have HB := Aside0.mk hb1; clear hpost hb1) | (go_at_call 14; (with_reducible refine (program_calls s2 (by decide) _).mono ?_); rintro e w2 hpost; obtain ⟨hb2, rfl⟩ := prog_err_of ev2 hpost; have HB2 := Aside0.mk hb2; clear hpost hb2))
  have y1b := cell_keep HB2.out _ _ (cell_keep (below_alloc (Below.refl _ w1) (.cells #[.string ⟨#[112]⟩, .slice a1 1 c1, .slice (some ⟨g, 0, none⟩) 3 c2] 29)) _ _ y1)
  have y2b := cell_keep HB2.out _ _ (cell_keep (below_alloc (Below.refl _ w1) (.cells #[.string ⟨#[112]⟩, .slice a1 1 c1, .slice (some ⟨g, 0, none⟩) 3 c2] 29)) _ _ y2)
  have HZ := (HB2.out.block w1.heap.size (by simp)).trans (blk_new w1 (.cells #[.string ⟨#[112]⟩, .slice a1 1 c1, .slice (some ⟨g, 0, none⟩) 3 c2] 29))
  obtain ⟨b0, b1, b2, _, _, _⟩ := cells3 HZ
  have l0 := blk_lt HZ
  have l1 := cell_lt y1b
  have l2 := cell_lt y2b
  have HB3 := Aside0.mk (Below.trans HB.out ((Below.trans (below_alloc (Below.refl _ w1) (.cells #[.string ⟨#[112]⟩, .slice a1 1 c1, .slice (some ⟨g, 0, none⟩) 3 c2] 29)) (HB2.out.mono (by simp))).mono HB.out.size))
  clear y1 y2 HZ HB HB2
  go_wp2_with (first | (go_at_call 12; (with_reducible refine (num_calls _ _).mono ?_); rintro e wn ⟨rfl, rfl⟩) | (go_at_call 25; (with_reducible refine (begins3 _).mono ?_); rintro e wb ⟨rfl, hb⟩; have HB4 := Aside0.mk hb; clear hb) | (go_at_call 25; (with_reducible refine (begins4 _).mono ?_); rintro e wc ⟨rfl, hb⟩; have HB5 := Aside0.mk hb; clear hb))
  go_ret
  exact ⟨rfl, Below.trans HB3.out ((Below.trans (below_alloc (below_alloc (Below.refl _ _) _) _) (Below.trans (HB4.out.mono (by simp; omega)) (HB5.out.mono (Nat.le_trans (by simp; omega) HB4.out.size)))).mono HB3.out.size)⟩

end Go.Proofs.Ytdodajpiidkglaa.K
