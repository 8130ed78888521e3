/- inklingkit.Terms, Atom, Literal, Rule, Program: of two values that read as the same lists they say true. Conditions: the lists have at most 2147483647 elements. -/
import Derived.Test.YtdodajpiidkglaaKProgPure
import Derived.Test.YtdodajpiidkglaaKStmt
namespace Go.Proofs.Ytdodajpiidkglaa.K
open Go.RowKit Go.Proofs.YtdodajpiidkglaaW.PrintWords Go.Proofs.YtdodajpiidkglaaW.PrintLast Go.Proofs.YtdodajpiidkglaaW.PrintMore Go.Proofs.Ytdodajpiidkglaa.PAll
set_option linter.unusedVariables false
set_option linter.unusedSimpArgs false

set_option maxHeartbeats 4000000 in
set_option maxRecDepth 100000 in
theorem terms_true {w : World} {A1 A2 : Option Addr} {c1 c2 : Nat} {l : List S61} (h1 : Kd.C k61 w A1 l.length l) (h2 : Kd.C k61 w A2 l.length l) (hl : l.length ≤ 2147483647) :
    Calls Try.prog 62 #[.slice A1 l.length c1, .slice A2 l.length c2] w fun e w' => e = .returned (.bool true) ∧ Drawn0 w w' := by
  have hu61 := Try.underlying61
  have H1 := Aside0.mk h1
  have H2 := Aside0.mk h2
  clear h1 h2
  go_enter Try.func62, Try.ntmps62
  go_wp2
  go_loopg [5] l.length (fun n v5 wc => ∃ j : Nat, v5 = .int .i64 (j : Int) ∧ j + n = l.length ∧ Drawn0 w wc)
  case atStart => exact ⟨0, rfl, by omega, Drawn0.refl _⟩
  case round =>
    obtain ⟨j, rfl, hj, ⟨m, rfl⟩⟩ := hrel
    by_cases hlt : j < l.length
    · have hd : decide (j < l.length) = true := decide_eq_true hlt
      have hd2 : decide ((j : Int) < (l.length : Int)) = true := decide_eq_true (by omega)
      obtain ⟨ad1, rfl, x0, x1⟩ := at_T61 H1.out (j : Int) (by omega) (by omega)
      obtain ⟨ad2, rfl, y0, y1⟩ := at_T61 H2.out (j : Int) (by omega) (by omega)
      generalize rd_T61 l (j : Int) = z at x0 x1 y0 y1
      rw [Int.toNat_natCast] at x0 x1 y0 y1
      go_wp2
      go_quiet (fail)
      go_wp2
      go_roundg (l.length - (j + 1))
      case measure => omega
      case rel => exact ⟨j + 1, by go_num, by omega, by repeat (first | exact Drawn0.refl _ | apply Drawn0.step)⟩
    · have hd : decide (j < l.length) = false := decide_eq_false hlt
      have hd2 : decide ((j : Int) < (l.length : Int)) = false := decide_eq_false (by omega)
      go_wp2
      go_ret
      exact ⟨rfl, by repeat (first | exact Drawn0.refl _ | apply Drawn0.step)⟩

def TrueEnd (w : World) (e : Ending) (w' : World) : Prop := e = .returned (.bool true) ∧ Below w.heap.size w w'
def termsArm : Unit := ()
set_option maxHeartbeats 4000000 in
set_option maxRecDepth 100000 in
theorem atom_true {w : World} {A1 A2 : Option Addr} {c1 c2 : Nat} {p : ByteArray} {l : List S61} (h1 : Kd.C k61 w A1 l.length l) (h2 : Kd.C k61 w A2 l.length l) (hl : l.length ≤ 2147483647) :
    Calls Try.prog 37 #[.agg #[.string p, .slice A1 l.length c1], .agg #[.string p, .slice A2 l.length c2]] w (TrueEnd w) := by
  have H1 := Aside0.mk h1
  have H2 := Aside0.mk h2
  clear h1 h2
  go_enter Try.func37, Try.ntmps37
  go_wp2_with (go_at_call 62; (with_reducible refine (terms_true ?t1 ?t2 hl).mono ?_); (case t1 => exact Kd.C_below H1.out (below_alloc (below_alloc (Below.refl _ w) _) _)); (case t2 => exact Kd.C_below H2.out (below_alloc (below_alloc (Below.refl _ w) _) _)); rintro e w' ⟨rfl, ⟨n, rfl⟩⟩)
  go_ret
  exact ⟨rfl, pw_below_drewN (below_alloc (below_alloc (Below.refl _ w) _) _) _⟩

set_option maxHeartbeats 4000000 in
set_option maxRecDepth 100000 in
theorem literal_true {w : World} {A1 A2 : Option Addr} {c1 c2 : Nat} {x : S63} (h1 : Kd.C k61 w A1 x.f1.f1.length x.f1.f1) (h2 : Kd.C k61 w A2 x.f1.f1.length x.f1.f1) (hl : x.f1.f1.length ≤ 2147483647) :
    Calls Try.prog 38 #[.agg #[.int .i64 x.f0, .string x.f1.f0, .slice A1 x.f1.f1.length c1, .bool x.f2.f0, .string x.f2.f1, .bool x.f3.f0, .string x.f3.f1], .agg #[.int .i64 x.f0, .string x.f1.f0, .slice A2 x.f1.f1.length c2, .bool x.f2.f0, .string x.f2.f1, .bool x.f3.f0, .string x.f3.f1]] w (TrueEnd w) := by
  have H1 := Aside0.mk h1
  have H2 := Aside0.mk h2
  clear h1 h2
  go_enter Try.func38, Try.ntmps38
  go_wp2_with (go_at_call 37; (with_reducible refine (atom_true ?t1 ?t2 hl).mono ?_); (case t1 => exact Kd.C_below H1.out (below_alloc (below_alloc (Below.refl _ w) _) _)); (case t2 => exact Kd.C_below H2.out (below_alloc (below_alloc (Below.refl _ w) _) _)); rintro e w' ⟨rfl, hb⟩; have HB := Aside0.mk hb; clear hb)
  go_ret
  exact ⟨rfl, Below.trans (below_alloc (below_alloc (Below.refl _ w) _) _) (HB.out.mono (by simp; omega))⟩

/-- A rule's lists as they are read. -/
def RuleC (w : World) (x : S29) (v1 v2 : Value) : Prop := ∃ A1 c1 A2 c2, v1 = .slice A1 x.f0.f1.length c1 ∧ v2 = .slice A2 x.f1.length c2 ∧ Kd.C k61 w A1 x.f0.f1.length x.f0.f1 ∧ Kd.C k63 w A2 x.f1.length x.f1
theorem RuleC.below {w w1 : World} {x : S29} {v1 v2 : Value} (h : RuleC w x v1 v2) (hb : Below w.heap.size w w1) : RuleC w1 x v1 v2 := by
  obtain ⟨A1, c1, A2, c2, e1, e2, h1, h2⟩ := h
  exact ⟨A1, c1, A2, c2, e1, e2, Kd.C_below h1 hb, Kd.C_below h2 hb⟩
/-- Sizes of a rule. -/
def RuleS (x : S29) : Prop := x.f0.f1.length ≤ 2147483647 ∧ x.f1.length ≤ 2147483647 ∧ ∀ k, (rd_T63 x.f1 k).f1.f1.length ≤ 2147483647
set_option maxHeartbeats 4000000 in
set_option maxRecDepth 100000 in
theorem rule_true {w : World} {x : S29} {v1 v2 u1 u2 : Value} (h1 : RuleC w x v1 v2) (h2 : RuleC w x u1 u2) (hs : RuleS x) :
    Calls Try.prog 11 #[.agg #[.string x.f0.f0, v1, v2], .agg #[.string x.f0.f0, u1, u2]] w (TrueEnd w) := by
  obtain ⟨A1, c1, A2, c2, rfl, rfl, h11, h12⟩ := h1
  obtain ⟨B1, d1, B2, d2, rfl, rfl, h21, h22⟩ := h2
  obtain ⟨hs1, hs2, hs3⟩ := hs
  have H11 := Aside0.mk h11
  have H12 := Aside0.mk h12
  have H21 := Aside0.mk h21
  have H22 := Aside0.mk h22
  have HS := Aside0.mk hs3
  clear h11 h12 h21 h22 hs3
  have hz : (w.alloc (.cells #[.string x.f0.f0, .slice A1 x.f0.f1.length c1, .slice A2 x.f1.length c2] 29)).heap.size = w.heap.size + 1 := by simp
  have HZ1 := Aside0.mk (blk_alloc (blk_new w (.cells #[.string x.f0.f0, .slice A1 x.f0.f1.length c1, .slice A2 x.f1.length c2] 29)) (.cells #[.string x.f0.f0, .slice B1 x.f0.f1.length d1, .slice B2 x.f1.length d2] 29))
  have HZ2 := Aside0.mk (hz ▸ blk_new (w.alloc (.cells #[.string x.f0.f0, .slice A1 x.f0.f1.length c1, .slice A2 x.f1.length c2] 29)) (.cells #[.string x.f0.f0, .slice B1 x.f0.f1.length d1, .slice B2 x.f1.length d2] 29))
  have HW := Aside0.mk (below_alloc (below_alloc (Below.refl w.heap.size w) (.cells #[.string x.f0.f0, .slice A1 x.f0.f1.length c1, .slice A2 x.f1.length c2] 29)) (.cells #[.string x.f0.f0, .slice B1 x.f0.f1.length d1, .slice B2 x.f1.length d2] 29))
  clear hz
  go_enter Try.func11, Try.ntmps11
  go_wp2_with (go_at_call 37; (with_reducible refine (atom_true ?t1 ?t2 hs1).mono ?_); (case t1 => exact Kd.C_below H11.out HW.out); (case t2 => exact Kd.C_below H21.out HW.out); rintro e w2 ⟨rfl, hb⟩; have nHW := Aside0.mk (Below.trans HW.out (hb.mono HW.out.size)); have nZ1 := Aside0.mk (blk_below HZ1.out hb); have nZ2 := Aside0.mk (blk_below HZ2.out hb); clear hb HW HZ1 HZ2; have HW := nHW; have HZ1 := nZ1; have HZ2 := nZ2; clear nHW nZ1 nZ2; obtain ⟨y0, y1, y2, _, _, _⟩ := cells3 HZ1.out; obtain ⟨z0, z1, z2, _, _, _⟩ := cells3 HZ2.out)
  go_loopg [5] x.f1.length (fun n v5 wc => ∃ j : Nat, v5 = .int .i64 (j : Int) ∧ j + n = x.f1.length ∧ Aside0 (Below w.heap.size w wc) ∧ Aside0 (wc.heap[w.heap.size]? = some (.cells #[.string x.f0.f0, .slice A1 x.f0.f1.length c1, .slice A2 x.f1.length c2] 29 (0, 0))) ∧ Aside0 (wc.heap[w.heap.size + 1]? = some (.cells #[.string x.f0.f0, .slice B1 x.f0.f1.length d1, .slice B2 x.f1.length d2] 29 (0, 0))))
  case atStart => exact ⟨0, rfl, by omega, HW, HZ1, HZ2⟩
  case round =>
    obtain ⟨j, rfl, hj, HW2, HZ12, HZ22⟩ := hrel
    clear HW HZ1 HZ2 y0 y1 y2 z0 z1 z2
    obtain ⟨y0, y1, y2, _, _, _⟩ := cells3 HZ12.out
    obtain ⟨z0, z1, z2, _, _, _⟩ := cells3 HZ22.out
    by_cases hlt : j < x.f1.length
    · have hd : decide (j < x.f1.length) = true := decide_eq_true hlt
      have hd2 : decide ((j : Int) < (x.f1.length : Int)) = true := decide_eq_true (by omega)
      obtain ⟨ad1, E1, k1, rfl, a0, a1, a2, a3, a4, a5, a6, _, hC1⟩ := at_T63 (Kd.C_below H12.out HW2.out) (j : Int) (by omega) (by omega)
      obtain ⟨ad2, E2, k2, rfl, b0, b1, b2, b3, b4, b5, b6, _, hC2⟩ := at_T63 (Kd.C_below H22.out HW2.out) (j : Int) (by omega) (by omega)
      have hl := HS.out (j : Int)
      generalize rd_T63 x.f1 (j : Int) = z at a0 a1 a2 a3 a4 a5 a6 b0 b1 b2 b3 b4 b5 b6 hC1 hC2 hl
      rw [Int.toNat_natCast] at a0 a1 a2 a3 a4 a5 a6 b0 b1 b2 b3 b4 b5 b6
      have HC1 := Aside0.mk hC1
      have HC2 := Aside0.mk hC2
      clear hC1 hC2
      go_wp2
      go_region_with (go_at_call 38; (refine (literal_true (A1 := E1) (A2 := E2) ?t1 ?t2 hl).mono ?_); (case t1 => repeat (first | exact HC1.out | refine Kd.C_below ?_ (below_drew1 (Below.refl _ _)))); (case t2 => repeat (first | exact HC2.out | refine Kd.C_below ?_ (below_drew1 (Below.refl _ _)))); rintro e w3 ⟨rfl, hb⟩; have HB3 := Aside0.mk hb; clear hb)
      all_goals
        have nW := Aside0.mk (Below.trans (below_drew1 HW2.out) (HB3.out.mono (show _ ≤ wr.drew.heap.size from HW2.out.size)))
        have nZ1 := Aside0.mk (blk_below (show wr.drew.heap[w.heap.size]? = _ from HZ12.out) HB3.out)
        have nZ2 := Aside0.mk (blk_below (show wr.drew.heap[w.heap.size + 1]? = _ from HZ22.out) HB3.out)
        go_wp2
        go_roundg (x.f1.length - (j + 1))
        case measure => omega
        case rel => exact ⟨j + 1, by go_num, by omega, nW, nZ1, nZ2⟩
    · have hd : decide (j < x.f1.length) = false := decide_eq_false hlt
      have hd2 : decide ((j : Int) < (x.f1.length : Int)) = false := decide_eq_false (by omega)
      go_wp2
      go_ret
      exact ⟨rfl, HW2.out⟩

/-- A program's three lists as they are read. -/
def Prog3C (w : World) (A : List S86) (B : List S88) (C : List S29) (v1 v2 v3 : Value) : Prop :=
  ∃ A1 c1 A2 c2 A3 c3, v1 = .slice A1 A.length c1 ∧ v2 = .slice A2 B.length c2 ∧ v3 = .slice A3 C.length c3 ∧ Kd.C k86 w A1 A.length A ∧ Kd.C k88 w A2 B.length B ∧ Kd.C k29 w A3 C.length C
theorem Prog3C.below {w w1 : World} {A : List S86} {B : List S88} {C : List S29} {v1 v2 v3 : Value} (h : Prog3C w A B C v1 v2 v3) (hb : Below w.heap.size w w1) : Prog3C w1 A B C v1 v2 v3 := by
  obtain ⟨A1, c1, A2, c2, A3, c3, e1, e2, e3, h1, h2, h3⟩ := h
  exact ⟨A1, c1, A2, c2, A3, c3, e1, e2, e3, Kd.C_below h1 hb, Kd.C_below h2 hb, Kd.C_below h3 hb⟩
def ProgS (A : List S86) (B : List S88) (C : List S29) : Prop := A.length ≤ 2147483647 ∧ B.length ≤ 2147483647 ∧ C.length ≤ 2147483647 ∧ ∀ k, RuleS (rd_T29 C k)
set_option maxHeartbeats 8000000 in
set_option maxRecDepth 100000 in
theorem program_true {w : World} {A : List S86} {B : List S88} {C : List S29} {v1 v2 v3 u1 u2 u3 : Value} (h1 : Prog3C w A B C v1 v2 v3) (h2 : Prog3C w A B C u1 u2 u3) (hs : ProgS A B C) :
    Calls Try.prog 16 #[.agg #[v1, v2, v3], .agg #[u1, u2, u3]] w (TrueEnd w) := by
  obtain ⟨A1, c1, A2, c2, A3, c3, rfl, rfl, rfl, h11, h12, h13⟩ := h1
  obtain ⟨B1, d1, B2, d2, B3, d3, rfl, rfl, rfl, h21, h22, h23⟩ := h2
  obtain ⟨hs1, hs2, hs3, hs4⟩ := hs
  have H11 := Aside0.mk h11
  have H12 := Aside0.mk h12
  have H13 := Aside0.mk h13
  have H21 := Aside0.mk h21
  have H22 := Aside0.mk h22
  have H23 := Aside0.mk h23
  have HS := Aside0.mk hs4
  have hu86 := Try.underlying86
  have hu88 := Try.underlying88
  clear h11 h12 h13 h21 h22 h23 hs4
  have hz : (w.alloc (.cells #[.slice A1 A.length c1, .slice A2 B.length c2, .slice A3 C.length c3] 42)).heap.size = w.heap.size + 1 := by simp
  have HZ1 := Aside0.mk (blk_alloc (blk_new w (.cells #[.slice A1 A.length c1, .slice A2 B.length c2, .slice A3 C.length c3] 42)) (.cells #[.slice B1 A.length d1, .slice B2 B.length d2, .slice B3 C.length d3] 42))
  have HZ2 := Aside0.mk (hz ▸ blk_new (w.alloc (.cells #[.slice A1 A.length c1, .slice A2 B.length c2, .slice A3 C.length c3] 42)) (.cells #[.slice B1 A.length d1, .slice B2 B.length d2, .slice B3 C.length d3] 42))
  have HW := Aside0.mk (below_alloc (below_alloc (Below.refl w.heap.size w) (.cells #[.slice A1 A.length c1, .slice A2 B.length c2, .slice A3 C.length c3] 42)) (.cells #[.slice B1 A.length d1, .slice B2 B.length d2, .slice B3 C.length d3] 42))
  clear hz
  go_enter Try.func16, Try.ntmps16
  go_wp2

  go_loopg [5] A.length (fun n v5 wc => ∃ j : Nat, v5 = .int .i64 (j : Int) ∧ j + n = A.length ∧ Aside0 (Below w.heap.size w wc) ∧ Aside0 (wc.heap[w.heap.size]? = some (.cells #[.slice A1 A.length c1, .slice A2 B.length c2, .slice A3 C.length c3] 42 (0, 0))) ∧ Aside0 (wc.heap[w.heap.size + 1]? = some (.cells #[.slice B1 A.length d1, .slice B2 B.length d2, .slice B3 C.length d3] 42 (0, 0))))
  case atStart => exact ⟨0, rfl, by omega, HW, HZ1, HZ2⟩
  case round =>
    obtain ⟨j, rfl, hj, HW2, HZ12, HZ22⟩ := hrel
    clear HW HZ1 HZ2
    obtain ⟨y0, y1, y2, _, _, _⟩ := cells3 HZ12.out
    obtain ⟨z0, z1, z2, _, _, _⟩ := cells3 HZ22.out
    by_cases hlt : j < A.length
    · have hd : decide (j < A.length) = true := decide_eq_true hlt
      have hd2 : decide ((j : Int) < (A.length : Int)) = true := decide_eq_true (by omega)
      obtain ⟨ad1, rfl, a0, a1, a2⟩ := at_T86 (Kd.C_below H11.out HW2.out) (j : Int) (by omega) (by omega)
      obtain ⟨ad2, rfl, b0, b1, b2⟩ := at_T86 (Kd.C_below H21.out HW2.out) (j : Int) (by omega) (by omega)
      generalize rd_T86 A (j : Int) = z at a0 a1 a2 b0 b1 b2
      rw [Int.toNat_natCast] at a0 a1 a2 b0 b1 b2
      go_wp2
      go_quiet (fail)
      go_wp2
      go_roundg (A.length - (j + 1))
      case measure => omega
      case rel => exact ⟨j + 1, by go_num, by omega, ⟨pw_below_drewN HW2.out _⟩, ⟨HZ12.out⟩, ⟨HZ22.out⟩⟩
    · have hd : decide (j < A.length) = false := decide_eq_false hlt
      have hd2 : decide ((j : Int) < (A.length : Int)) = false := decide_eq_false (by omega)
      go_wp2
      clear hd hd2 y0 y1 y2 z0 z1 z2
      have HW := HW2
      have HZ1 := HZ12
      have HZ2 := HZ22
      clear HW2 HZ12 HZ22

      go_loopg [6] B.length (fun n v5 wc => ∃ j : Nat, v5 = .int .i64 (j : Int) ∧ j + n = B.length ∧ Aside0 (Below w.heap.size w wc) ∧ Aside0 (wc.heap[w.heap.size]? = some (.cells #[.slice A1 A.length c1, .slice A2 B.length c2, .slice A3 C.length c3] 42 (0, 0))) ∧ Aside0 (wc.heap[w.heap.size + 1]? = some (.cells #[.slice B1 A.length d1, .slice B2 B.length d2, .slice B3 C.length d3] 42 (0, 0))))
      case atStart => exact ⟨0, rfl, by omega, HW, HZ1, HZ2⟩
      case round =>
        obtain ⟨j, rfl, hj, HW2, HZ12, HZ22⟩ := hrel
        clear HW HZ1 HZ2
        obtain ⟨y0, y1, y2, _, _, _⟩ := cells3 HZ12.out
        obtain ⟨z0, z1, z2, _, _, _⟩ := cells3 HZ22.out
        by_cases hlt : j < B.length
        · have hd : decide (j < B.length) = true := decide_eq_true hlt
          have hd2 : decide ((j : Int) < (B.length : Int)) = true := decide_eq_true (by omega)
          obtain ⟨ad1, rfl, a0, a1⟩ := at_T88 (Kd.C_below H12.out HW2.out) (j : Int) (by omega) (by omega)
          obtain ⟨ad2, rfl, b0, b1⟩ := at_T88 (Kd.C_below H22.out HW2.out) (j : Int) (by omega) (by omega)
          generalize rd_T88 B (j : Int) = z at a0 a1 b0 b1
          rw [Int.toNat_natCast] at a0 a1 b0 b1
          go_wp2
          go_quiet (fail)
          go_wp2
          go_roundg (B.length - (j + 1))
          case measure => omega
          case rel => exact ⟨j + 1, by go_num, by omega, ⟨pw_below_drewN HW2.out _⟩, ⟨HZ12.out⟩, ⟨HZ22.out⟩⟩
        · have hd : decide (j < B.length) = false := decide_eq_false hlt
          have hd2 : decide ((j : Int) < (B.length : Int)) = false := decide_eq_false (by omega)
          go_wp2
          clear hd hd2 y0 y1 y2 z0 z1 z2
          have HW := HW2
          have HZ1 := HZ12
          have HZ2 := HZ22
          clear HW2 HZ12 HZ22

          go_loopg [7] C.length (fun n v5 wc => ∃ j : Nat, v5 = .int .i64 (j : Int) ∧ j + n = C.length ∧ Aside0 (Below w.heap.size w wc) ∧ Aside0 (wc.heap[w.heap.size]? = some (.cells #[.slice A1 A.length c1, .slice A2 B.length c2, .slice A3 C.length c3] 42 (0, 0))) ∧ Aside0 (wc.heap[w.heap.size + 1]? = some (.cells #[.slice B1 A.length d1, .slice B2 B.length d2, .slice B3 C.length d3] 42 (0, 0))))
          case atStart => exact ⟨0, rfl, by omega, HW, HZ1, HZ2⟩
          case round =>
            obtain ⟨j, rfl, hj, HW2, HZ12, HZ22⟩ := hrel
            clear HW HZ1 HZ2
            obtain ⟨y0, y1, y2, _, _, _⟩ := cells3 HZ12.out
            obtain ⟨z0, z1, z2, _, _, _⟩ := cells3 HZ22.out
            by_cases hlt : j < C.length
            · have hd : decide (j < C.length) = true := decide_eq_true hlt
              have hd2 : decide ((j : Int) < (C.length : Int)) = true := decide_eq_true (by omega)
              obtain ⟨ad1, E1, k1, E2, k2, rfl, a0, a1, a2, _, hE1, _, hE2⟩ := at_T29 (Kd.C_below H13.out HW2.out) (j : Int) (by omega) (by omega)
              obtain ⟨ad2, G1, m1, G2, m2, rfl, b0, b1, b2, _, hG1, _, hG2⟩ := at_T29 (Kd.C_below H23.out HW2.out) (j : Int) (by omega) (by omega)
              have hl := Aside0.mk (HS.out (j : Int))
              generalize rd_T29 C (j : Int) = z at a0 a1 a2 b0 b1 b2 hE1 hE2 hG1 hG2 hl
              rw [Int.toNat_natCast] at a0 a1 a2 b0 b1 b2
              have HC1 : Aside0 (RuleC wr z (.slice E1 z.f0.f1.length k1) (.slice E2 z.f1.length k2)) := ⟨_, _, _, _, rfl, rfl, hE1, hE2⟩
              have HC2 : Aside0 (RuleC wr z (.slice G1 z.f0.f1.length m1) (.slice G2 z.f1.length m2)) := ⟨_, _, _, _, rfl, rfl, hG1, hG2⟩
              clear hE1 hE2 hG1 hG2
              go_wp2
              go_region_with (go_at_call 11; (refine (rule_true (x := z) (v1 := .slice E1 z.f0.f1.length k1) (v2 := .slice E2 z.f1.length k2) (u1 := .slice G1 z.f0.f1.length m1) (u2 := .slice G2 z.f1.length m2) ?t1 ?t2 hl.out).mono ?_); (case t1 => repeat (first | exact HC1.out | refine RuleC.below ?_ (below_drew1 (Below.refl _ _)))); (case t2 => repeat (first | exact HC2.out | refine RuleC.below ?_ (below_drew1 (Below.refl _ _)))); rintro e w3 ⟨rfl, hb⟩; have HB3 := Aside0.mk hb; clear hb)
              all_goals
                have nW := Aside0.mk (Below.trans (below_drew1 HW2.out) (HB3.out.mono (show _ ≤ wr.drew.heap.size from HW2.out.size)))
                have nZ1 := Aside0.mk (blk_below (show wr.drew.heap[w.heap.size]? = _ from HZ12.out) HB3.out)
                have nZ2 := Aside0.mk (blk_below (show wr.drew.heap[w.heap.size + 1]? = _ from HZ22.out) HB3.out)
                go_wp2
                go_roundg (C.length - (j + 1))
                case measure => omega
                case rel => exact ⟨j + 1, by go_num, by omega, nW, nZ1, nZ2⟩
            · have hd : decide (j < C.length) = false := decide_eq_false hlt
              have hd2 : decide ((j : Int) < (C.length : Int)) = false := decide_eq_false (by omega)
              go_wp2
              go_ret
              exact ⟨rfl, HW2.out⟩

end Go.Proofs.Ytdodajpiidkglaa.K
