/- parse.Program's closure: the walk. Conditions: the parser lies in memory as 'IsP' and 'Rows6' say. parse.Program, parse.Begins: the walks. Condition: the text has at most 2147483647 bytes. -/
import Derived.Test.YtdodajpiidkglaaKStmt
import Derived.Test.YtdodajpiidkglaaKCaught
import Derived.Test.YtdodajpiidkglaaKSim
namespace Go.Proofs.Ytdodajpiidkglaa.K
open Go.RowKit Go.Proofs.YtdodajpiidkglaaW.PrintWords Go.Proofs.YtdodajpiidkglaaW.PrintLast Go.Proofs.YtdodajpiidkglaaW.PrintMore Go.Proofs.Ytdodajpiidkglaa.PAll
set_option linter.unusedVariables false
set_option linter.unusedSimpArgs false

/-- The end of the closure of parse.Program. -/
def PFEnd (w0 : World) (g : Nat) (s : ByteArray) (L : Value) (S : Nat → Prop) (wS : World) (c : Src) (r : Except Nat (List Stm × Nat)) (e : Ending) (w' : World) : Prop :=
  Below w0.heap.size w0 w' ∧ (∀ k, S k → w'.heap[k]? = wS.heap[k]?) ∧ match r with
  | .ok (l, j) => ∃ own v0 v1 v2 v3 v4 v5, e = .returned (.tuple #[]) ∧ IsP w0 w' g s L c j [v0, v1, v2, v3, v4, v5] ∧ Rows6 w0 w' g L S wS own v0 v1 v2 v3 v4 v5 (insOf l) (outsOf l) (rulesOf l) (insAt l) (outsAt l) (rulesAt l)
  | .error a => e = faultE a
theorem insOf_snoc (l : List Stm) (x : Stm) : insOf (l ++ [x]) = insOf l ++ insOf [x] := List.filterMap_append ..
theorem outsOf_snoc (l : List Stm) (x : Stm) : outsOf (l ++ [x]) = outsOf l ++ outsOf [x] := List.filterMap_append ..
theorem rulesOf_snoc (l : List Stm) (x : Stm) : rulesOf (l ++ [x]) = rulesOf l ++ rulesOf [x] := List.filterMap_append ..
theorem insAt_snoc (l : List Stm) (x : Stm) : insAt (l ++ [x]) = insAt l ++ insAt [x] := List.filterMap_append ..
theorem outsAt_snoc (l : List Stm) (x : Stm) : outsAt (l ++ [x]) = outsAt l ++ outsAt [x] := List.filterMap_append ..
theorem rulesAt_snoc (l : List Stm) (x : Stm) : rulesAt (l ++ [x]) = rulesAt l ++ rulesAt [x] := List.filterMap_append ..
theorem Rows6.snoc {w0 W : World} {g : Nat} {L : Value} {S : Nat → Prop} {wS : World} {own : Nat → Nat} {v0 v1 v2 v3 v4 v5 : Value} {l : List Stm} {x : Stm}
    (h : Rows6 w0 W g L S wS own v0 v1 v2 v3 v4 v5 (insOf l ++ insOf [x]) (outsOf l ++ outsOf [x]) (rulesOf l ++ rulesOf [x]) (insAt l ++ insAt [x]) (outsAt l ++ outsAt [x]) (rulesAt l ++ rulesAt [x])) : Rows6 w0 W g L S wS own v0 v1 v2 v3 v4 v5 (insOf (l ++ [x])) (outsOf (l ++ [x])) (rulesOf (l ++ [x])) (insAt (l ++ [x])) (outsAt (l ++ [x])) (rulesAt (l ++ [x])) := by
  rw [insOf_snoc, outsOf_snoc, rulesOf_snoc, insAt_snoc, outsAt_snoc, rulesAt_snoc]; exact h

set_option maxHeartbeats 8000000 in
set_option maxRecDepth 100000 in
theorem progF_calls {w0 w : World} {g P X : Nat} {s : ByteArray} {L : Value} {c : Src} {S : Nat → Prop} {wS : World} {own : Nat → Nat} {v0 v1 v2 v3 v4 v5 : Value}
    (hp : IsP w0 w g s L c 0 [v0, v1, v2, v3, v4, v5]) (hR : Rows6 w0 w g L S wS own v0 v1 v2 v3 v4 v5 [] [] [] [] [] []) (hB : Below w0.heap.size w0 w) (hT : ∀ k, (c.at_ k).a ≤ 2147483647 ∧ (c.at_ k).t.size ≤ 2147483647)
    (hP : w.heap[P]? = some (.cells #[.pointer (some ⟨g, 0, none⟩)] 64 (0, 0))) (hSP : S P) (hX : w0.heap[X]? = some (.cells #[.string s] 9 (0, 0))) :
    Calls Try.prog 39 #[.pointer (some ⟨P, 0, none⟩), .pointer (some ⟨X, 0, none⟩)] w (PFEnd w0 g s L S wS c (programC c s.size)) := by
  generalize hr : programC c s.size = r
  unfold programC at hr
  generalize hrl : programL c (c.T.length + 1) 0 [] = rl at hr
  have HQ := Aside0.mk hr
  have hlen := hp.2.2.2
  have HPW : Aside0 (∀ W, Rows6 w0 W g L S wS own v0 v1 v2 v3 v4 v5 [] [] [] [] [] [] → True) := ⟨fun _ _ => trivial⟩
  have HWP := Aside0.mk (show wS.heap[P]? = some (.cells #[.pointer (some ⟨g, 0, none⟩)] 64 (0, 0)) from (hR.s0 P hSP).2.2.2.symm.trans hP)
  have HX := Aside0.mk hX
  have HXL := Aside0.mk (blk_lt hX)
  have HSP := Aside0.mk hSP
  have HT := Aside0.mk hT
  have HP0 := Aside0.mk hp
  have HR0 := Aside0.mk hR
  have HB0 := Aside0.mk hB
  have HL0 := Aside0.mk hrl
  clear hr hrl hp hR hB hT hP hSP hX HPW
  go_enter Try.func39, Try.ntmps39
  go_wp2
  go_loopg [2] c.T.length (fun n v2 wc => ∃ (i : Nat) (l : List Stm) (own1 : Nat → Nat) (v0 v1 v2 v3 v4 v5 : Value), i + n = c.T.length ∧ Aside0 (l.length ≤ i) ∧ Aside0 (programL c (n + 1) i l = rl) ∧ Aside0 (IsP w0 wc g s L c i [v0, v1, v2, v3, v4, v5]) ∧ Aside0 (Rows6 w0 wc g L S wS own1 v0 v1 v2 v3 v4 v5 (insOf l) (outsOf l) (rulesOf l) (insAt l) (outsAt l) (rulesAt l)) ∧ Aside0 (Below w0.heap.size w0 wc))
  case atStart => exact ⟨0, [], own, v0, v1, v2, v3, v4, v5, by omega, ⟨by simp⟩, HL0, HP0, HR0, HB0⟩
  case round =>
    obtain ⟨i, l, own1, v0, v1, v2, v3, v4, v5, hin, HLL, HL, HP, HR, HB⟩ := hrel
    have HI := Aside0.mk (show i ≤ c.T.length by omega)
    have HZP := Aside0.mk (show wr.heap[P]? = some (.cells #[.pointer (some ⟨g, 0, none⟩)] 64 (0, 0)) from (HR.out.s0 P HSP.out).2.2.2.trans HWP.out)
    have HZX := Aside0.mk (show wr.heap[X]? = some (.cells #[.string s] 9 (0, 0)) from (HB.out.block X HXL.out).trans HX.out)
    obtain ⟨c0, f0⟩ := one_cell HZP.out
    obtain ⟨c1, f1⟩ := one_cell HZX.out
    obtain ⟨A, cc, hLe, hC⟩ := HP.out.tokens
    obtain ⟨p0, p1, p2, p3, p4, p5, p6, p7, pf⟩ := pc HP.out.1
    rw [hLe] at p1
    clear hLe hC p0 p3 p4 p5
    by_cases hlt : i < c.T.length
    · have hd : decide ((i : Int) < (c.T.length : Int)) = true := decide_eq_true (by omega)
      obtain ⟨n, rfl⟩ : ∃ n, gk = n + 1 := ⟨gk - 1, by omega⟩
      have HL2 := Aside0.mk (show (match statementP c i with | .error a => .error a | .ok (x, i1) => programL c (n + 1) i1 (l ++ [x])) = rl from by
        have e := HL.out
        conv at e => lhs; unfold programL
        rw [if_pos hlt] at e; exact e)
      have hll := HLL.out
      have HN := Aside0.mk (show (insOf l).length ≤ 2147483647 ∧ (outsOf l).length ≤ 2147483647 ∧ (rulesOf l).length ≤ 2147483647 ∧ (insAt l).length ≤ 2147483647 ∧ (outsAt l).length ≤ 2147483647 ∧ (rulesAt l).length ≤ 2147483647 from
        ⟨Nat.le_trans (List.length_filterMap_le ..) (by omega), Nat.le_trans (List.length_filterMap_le ..) (by omega), Nat.le_trans (List.length_filterMap_le ..) (by omega), Nat.le_trans (List.length_filterMap_le ..) (by omega), Nat.le_trans (List.length_filterMap_le ..) (by omega), Nat.le_trans (List.length_filterMap_le ..) (by omega)⟩)
      clear hll HL
      have hl2 := HL2.out
      cases hs : statementP c i with
      | error a =>
        rw [hs] at hl2
        simp only at hl2
        have HE := Aside0.mk (show Except.error a = r from by rw [← HQ.out, ← hl2])
        have HS := Aside0.mk hs
        clear hs hl2 HL2
        go_wp2
        go_quiet (fail)
        go_wp2_with (first | (go_at_call 40; (with_reducible refine (stm_calls (w0 := w0) (s := s) (L := L) (c := c) (i := i) (S := S) (wS := wS) (own := own1) (v0 := v0) (v1 := v1) (v2 := v2) (v3 := v3) (v4 := v4) (v5 := v5) (A := insOf l) (B := outsOf l) (C := rulesOf l) (D := insAt l) (E := outsAt l) (F := rulesAt l) ?s1 ?s2 HI.out ?s3 HT.out HN.out).mono ?_); (case s1 => repeat (first | exact HP.out | apply IsP.drewN | apply IsP.drew)); (case s2 => repeat (first | exact HR.out | apply Rows6.drewN | apply Rows6.drew)); (case s3 => repeat (first | exact HB.out | apply pw_below_drewN | apply below_drew1)); rintro e w2 hpost; unfold SEnd at hpost; rw [HS.out] at hpost; obtain ⟨hb, rfl, hse⟩ := hpost; have HBE := Aside0.mk hb; have HSE := Aside0.mk hse; clear hb hse; simp only [faultE]))
        exact ⟨rfl, by rw [← HE.out]; exact ⟨HBE.out, HSE.out, rfl⟩⟩
      | ok rr =>
        obtain ⟨x, i1⟩ := rr
        rw [hs] at hl2
        simp only at hl2
        have hle := statementP_le hs
        have HLE := Aside0.mk hle
        have HL3 := Aside0.mk (show programL c (c.T.length - i1 + 1) i1 (l ++ [x]) = rl from by
          have e := programL_fuel (c := c) (c.T.length - i1 + 1) i1 (n + 1 - (c.T.length - i1 + 1)) (l ++ [x]) hle.2 (by omega)
          rw [show c.T.length - i1 + 1 + (n + 1 - (c.T.length - i1 + 1)) = n + 1 by omega] at e
          rw [← e]; exact hl2)
        have HS := Aside0.mk hs
        clear hs hl2 HL2 hle
        go_wp2
        go_quiet (fail)
        go_wp2_with (first | (go_at_call 40; (with_reducible refine (stm_calls (w0 := w0) (s := s) (L := L) (c := c) (i := i) (S := S) (wS := wS) (own := own1) (v0 := v0) (v1 := v1) (v2 := v2) (v3 := v3) (v4 := v4) (v5 := v5) (A := insOf l) (B := outsOf l) (C := rulesOf l) (D := insAt l) (E := outsAt l) (F := rulesAt l) ?s1 ?s2 HI.out ?s3 HT.out HN.out).mono ?_); (case s1 => repeat (first | exact HP.out | apply IsP.drewN | apply IsP.drew)); (case s2 => repeat (first | exact HR.out | apply Rows6.drewN | apply Rows6.drew)); (case s3 => repeat (first | exact HB.out | apply pw_below_drewN | apply below_drew1)); rintro e w2 hpost; unfold SEnd at hpost; rw [HS.out] at hpost; obtain ⟨hb, own2, u0, u1, u2, u3, u4, u5, rfl, hp2, hr2⟩ := hpost; have HB2 := Aside0.mk hb; have HP2 := Aside0.mk hp2; have HR2 := Aside0.mk hr2; clear hb hp2 hr2))
        go_roundg (c.T.length - i1)
        case measure => have := HLE.out; omega
        case rel => exact ⟨i1, l ++ [x], own2, u0, u1, u2, u3, u4, u5, by have := HLE.out; omega, ⟨by have := HLL.out; have := HLE.out; simp only [List.length_append, List.length_singleton]; omega⟩, HL3, HP2, ⟨HR2.out.snoc⟩, HB2⟩
    · have hd : decide ((i : Int) < (c.T.length : Int)) = false := decide_eq_false (by omega)
      have HL2 := Aside0.mk (show Except.ok (l, i) = rl from by
        have e := HL.out
        conv at e => lhs; unfold programL
        rw [if_neg hlt] at e; exact e)
      have hq : (if c.far < s.size ∨ c.o.k ≠ 0 then Except.error (stopP c i [1, 5, 6]) else .ok (l, i)) = r := by rw [← HQ.out, ← HL2.out]
      clear HL HL2
      go_wp2
      go_quiet (fail)
      by_cases hfar : c.far < s.size
      · rw [if_pos (.inl hfar)] at hq
        have HE := Aside0.mk hq
        have hd2 : decide (c.far < s.size) = true := decide_eq_true hfar
        clear hq hfar hlt
        go_wp2
        go_quiet (fail)
        go_wp2_with (first | (go_at_call 31; (with_reducible refine (stop_calls (w0 := w0) (s := s) (L := L) (q := [v0, v1, v2, v3, v4, v5]) (wl := [1, 5, 6]) ?s1 HI.out ?s2 ?s3).mono ?_); (case s1 => repeat (first | exact HP.out | apply IsP.alloc | apply IsP.drewN | apply IsP.drew)); (case s2 => repeat (first | exact Wants.of_new (by simp) rfl rfl | apply Wants.drewN | apply Wants.drew)); (case s3 => decide); rintro e w2 ⟨rfl, hb⟩; have HBE := Aside0.mk (below_step (by repeat (first | exact HB.out | apply below_alloc | apply pw_below_drewN | apply below_drew1)) hb); have HSR : Aside0 (Rows6 w0 w2 g L S wS own1 v0 v1 v2 v3 v4 v5 (insOf l) (outsOf l) (rulesOf l) (insAt l) (outsAt l) (rulesAt l)) := ⟨Rows6.below (by repeat (first | exact HR.out | apply Rows6.alloc | apply Rows6.drewN | apply Rows6.drew)) hb⟩; clear hb; simp only [faultE]))
        exact ⟨rfl, by rw [← HE.out]; exact ⟨HBE.out, fun k hk => (HSR.out.s0 k hk).2.2.2, rfl⟩⟩
      · have hd2 : decide (c.far < s.size) = false := decide_eq_false hfar
        by_cases hok : c.o.k = 0
        · rw [if_neg (fun e => e.elim hfar (fun e => e hok))] at hq
          have HE := Aside0.mk hq
          have hd3 : ((c.o.k : Int) != 0) = false := bne_eq_false_iff_eq.2 (by omega)
          clear hq hfar hlt hok
          go_wp2
          go_quiet (fail)
          go_wp2
          go_end0
          rw [← HE.out]
          exact ⟨pw_below_drewN (pw_below_drewN HB.out _) _, fun k hk => (HR.out.s0 k hk).2.2.2, own1, v0, v1, v2, v3, v4, v5, rfl, (HP.out.drewN _).drewN _, (HR.out.drewN _).drewN _⟩
        · rw [if_pos (.inr hok)] at hq
          have HE := Aside0.mk hq
          have hd3 : ((c.o.k : Int) != 0) = true := bne_iff_ne.2 (by omega)
          clear hq hfar hlt hok
          go_wp2
          go_quiet (fail)
          go_wp2_with (first | (go_at_call 31; (with_reducible refine (stop_calls (w0 := w0) (s := s) (L := L) (q := [v0, v1, v2, v3, v4, v5]) (wl := [1, 5, 6]) ?s1 HI.out ?s2 ?s3).mono ?_); (case s1 => repeat (first | exact HP.out | apply IsP.alloc | apply IsP.drewN | apply IsP.drew)); (case s2 => repeat (first | exact Wants.of_new (by simp) rfl rfl | apply Wants.drewN | apply Wants.drew)); (case s3 => decide); rintro e w2 ⟨rfl, hb⟩; have HBE := Aside0.mk (below_step (by repeat (first | exact HB.out | apply below_alloc | apply pw_below_drewN | apply below_drew1)) hb); have HSR : Aside0 (Rows6 w0 w2 g L S wS own1 v0 v1 v2 v3 v4 v5 (insOf l) (outsOf l) (rulesOf l) (insAt l) (outsAt l) (rulesAt l)) := ⟨Rows6.below (by repeat (first | exact HR.out | apply Rows6.alloc | apply Rows6.drewN | apply Rows6.drew)) hb⟩; clear hb; simp only [faultE]))
          exact ⟨rfl, by rw [← HE.out]; exact ⟨HBE.out, fun k hk => (HSR.out.s0 k hk).2.2.2, rfl⟩⟩
end Go.Proofs.Ytdodajpiidkglaa.K

namespace Go.Proofs.Ytdodajpiidkglaa.K
open Go.RowKit Go.Proofs.YtdodajpiidkglaaW.PrintWords Go.Proofs.YtdodajpiidkglaaW.PrintLast Go.Proofs.YtdodajpiidkglaaW.PrintMore Go.Proofs.Ytdodajpiidkglaa.PAll
set_option linter.unusedVariables false
set_option linter.unusedSimpArgs false

/-- A program's six lists in memory, in blocks from b on, none in two of them. -/
def Prog6 (b : Nat) (W : World) (own : Nat → Nat) (v0 v1 v2 v3 v4 v5 : Value) (l : List Stm) : Prop := Kd.R k86 86 W b (fun k => own k = 1) v0 (insOf l) ∧ Kd.R k88 88 W b (fun k => own k = 2) v1 (outsOf l) ∧ Kd.R k29 29 W b (fun k => own k = 3) v2 (rulesOf l) ∧ Kd.R (Kd.int .i64) 3 W b (fun k => own k = 4) v3 (insAt l) ∧ Kd.R (Kd.int .i64) 3 W b (fun k => own k = 5) v4 (outsAt l) ∧ Kd.R (Kd.int .i64) 3 W b (fun k => own k = 6) v5 (rulesAt l)
theorem Rows6.prog {w0 W W1 : World} {g : Nat} {L : Value} {S : Nat → Prop} {wS : World} {own : Nat → Nat} {v0 v1 v2 v3 v4 v5 : Value} {l : List Stm} {b : Nat} (h : Rows6 w0 W g L S wS own v0 v1 v2 v3 v4 v5 (insOf l) (outsOf l) (rulesOf l) (insAt l) (outsAt l) (rulesAt l))
    (hb : b ≤ w0.heap.size) (hm : ∀ k, own k ≠ 0 → w0.heap.size ≤ k → k < W.heap.size → W1.heap[k]? = W.heap[k]?) : Prog6 b W1 own v0 v1 v2 v3 v4 v5 l :=
  ⟨Kd.R_lower (Kd.R_mono (Kd.R_move (Kd.R_bound h.r0) (fun k hk => hm k (by have := hk.1; omega) hk.2.1 hk.2.2.1)) (fun k hk => hk.1)) hb, Kd.R_lower (Kd.R_mono (Kd.R_move (Kd.R_bound h.r1) (fun k hk => hm k (by have := hk.1; omega) hk.2.1 hk.2.2.1)) (fun k hk => hk.1)) hb, Kd.R_lower (Kd.R_mono (Kd.R_move (Kd.R_bound h.r2) (fun k hk => hm k (by have := hk.1; omega) hk.2.1 hk.2.2.1)) (fun k hk => hk.1)) hb, Kd.R_lower (Kd.R_mono (Kd.R_move (Kd.R_bound h.r3) (fun k hk => hm k (by have := hk.1; omega) hk.2.1 hk.2.2.1)) (fun k hk => hk.1)) hb, Kd.R_lower (Kd.R_mono (Kd.R_move (Kd.R_bound h.r4) (fun k hk => hm k (by have := hk.1; omega) hk.2.1 hk.2.2.1)) (fun k hk => hk.1)) hb, Kd.R_lower (Kd.R_mono (Kd.R_move (Kd.R_bound h.r5) (fun k hk => hm k (by have := hk.1; omega) hk.2.1 hk.2.2.1)) (fun k hk => hk.1)) hb⟩
theorem Prog6.step {W W1 : World} {own : Nat → Nat} {v0 v1 v2 v3 v4 v5 : Value} {l : List Stm} {b : Nat} (h : Prog6 b W own v0 v1 v2 v3 v4 v5 l) (hm : ∀ k, b ≤ k → k < W.heap.size → W1.heap[k]? = W.heap[k]?) : Prog6 b W1 own v0 v1 v2 v3 v4 v5 l :=
  ⟨Kd.R_mono (Kd.R_move (Kd.R_bound h.1) (fun k hk => hm k hk.2.1 hk.2.2.1)) (fun k hk => hk.1), Kd.R_mono (Kd.R_move (Kd.R_bound h.2.1) (fun k hk => hm k hk.2.1 hk.2.2.1)) (fun k hk => hk.1), Kd.R_mono (Kd.R_move (Kd.R_bound h.2.2.1) (fun k hk => hm k hk.2.1 hk.2.2.1)) (fun k hk => hk.1), Kd.R_mono (Kd.R_move (Kd.R_bound h.2.2.2.1) (fun k hk => hm k hk.2.1 hk.2.2.1)) (fun k hk => hk.1), Kd.R_mono (Kd.R_move (Kd.R_bound h.2.2.2.2.1) (fun k hk => hm k hk.2.1 hk.2.2.1)) (fun k hk => hk.1), Kd.R_mono (Kd.R_move (Kd.R_bound h.2.2.2.2.2) (fun k hk => hm k hk.2.1 hk.2.2.1)) (fun k hk => hk.1)⟩
theorem Prog6.below {W W1 : World} {own : Nat → Nat} {v0 v1 v2 v3 v4 v5 : Value} {l : List Stm} {b : Nat} (h : Prog6 b W own v0 v1 v2 v3 v4 v5 l) (hb : Below W.heap.size W W1) : Prog6 b W1 own v0 v1 v2 v3 v4 v5 l := h.step (fun k _ hk => hb.block k hk)

/-- What the closure leaves, within caught. -/
def InOk (w0 : World) (g : Nat) (s : ByteArray) (L : Value) (S : Nat → Prop) (wS : World) (c : Src) (l : List Stm) (j : Nat) (w' : World) : Prop :=
  Below w0.heap.size w0 w' ∧ (∀ k, S k → w'.heap[k]? = wS.heap[k]?) ∧ ∃ own v0 v1 v2 v3 v4 v5, IsP w0 w' g s L c j [v0, v1, v2, v3, v4, v5] ∧ Rows6 w0 w' g L S wS own v0 v1 v2 v3 v4 v5 (insOf l) (outsOf l) (rulesOf l) (insAt l) (outsAt l) (rulesAt l)
def InErr (w0 : World) (S : Nat → Prop) (wS : World) (w' : World) : Prop := Below w0.heap.size w0 w' ∧ ∀ k, S k → w'.heap[k]? = wS.heap[k]?
theorem old_err {wa w1 w2 w3 : World} {o : Obj} (hB1 : Below wa.heap.size wa w1) (h : Below wa.heap.size wa w2) (ht : Turned (w1.alloc o) w2 w3) : Below wa.heap.size wa w3 := by
  have hz : (w1.alloc o).heap.size = w1.heap.size + 1 := by simp
  exact Below.trans h (ht.1.mono (by have := hB1.size; omega))
/-- Blocks that are laid between begin and the closure. -/
def Mid (w1 w2 : World) (k : Nat) : Prop := w1.heap.size ≤ k ∧ k < w2.heap.size
section
variable {wa w1 : World} {g X : Nat} {s : ByteArray} {L : Value} {c : Src}
theorem cw_size (w : World) : (CW w).heap.size = w.heap.size + 2 := by unfold CW; simp
theorem cw_laid (w : World) : Laid w (CW w) := by
  unfold Laid CW
  refine ⟨blk_alloc (blk_new w _) _, ?_⟩
  have hz : (w.alloc (.cells #[.int .i64 0] 3)).heap.size = w.heap.size + 1 := by simp
  rw [← hz]
  exact blk_new _ _
theorem pf_start (hp : IsP wa w1 g s L c 0 nil6) (hB : Below wa.heap.size wa w1) (hs : s.size ≤ 2147483647) (hT : ∀ k, (c.at_ k).a ≤ 2147483647 ∧ (c.at_ k).t.size ≤ 2147483647) (hX : wa.heap[X]? = some (.cells #[.string s] 9 (0, 0))) :
    Calls Try.prog 39 #[.pointer (some ⟨w1.heap.size, 0, none⟩), .pointer (some ⟨X, 0, none⟩)] (CW (w1.alloc (.cells #[.pointer (some ⟨g, 0, none⟩)] 64)))
      (PFEnd wa g s L (Mid w1 (CW (w1.alloc (.cells #[.pointer (some ⟨g, 0, none⟩)] 64)))) (CW (w1.alloc (.cells #[.pointer (some ⟨g, 0, none⟩)] 64))) c (programC c s.size)) := by
  have hgl := hp.lt
  have hz : (CW (w1.alloc (.cells #[.pointer (some ⟨g, 0, none⟩)] 64))).heap.size = w1.heap.size + 3 := by rw [cw_size]; simp
  refine progF_calls (own := fun _ => 0) (v0 := .slice none 0 0) (v1 := .slice none 0 0) (v2 := .slice none 0 0) (v3 := .slice none 0 0) (v4 := .slice none 0 0) (v5 := .slice none 0 0) (((hp.alloc _).alloc _).alloc _) ⟨rfl, fun _ _ => rfl, fun k hk => ⟨rfl, by have := hk.1; omega, by have := hk.2; omega, rfl⟩, Kd.R_nil _ _ _ _ _, Kd.R_nil _ _ _ _ _, Kd.R_nil _ _ _ _ _, Kd.R_nil _ _ _ _ _, Kd.R_nil _ _ _ _ _, Kd.R_nil _ _ _ _ _⟩ (below_alloc (below_alloc (below_alloc hB _) _) _) hT ?_ ⟨Nat.le_refl _, by omega⟩ hX
  exact blk_alloc (blk_alloc (blk_new w1 _) _) _
theorem enterF (args : Array Value) (w : World) : (callFunc 39 args).run Try.prog w = .ok (.enter 39 args) w := by
  kernel_rfl
theorem prog_caught_ok {l : List Stm} {j : Nat} (hr : programC c s.size = .ok (l, j)) (hp : IsP wa w1 g s L c 0 nil6) (hB : Below wa.heap.size wa w1) (hs : s.size ≤ 2147483647) (hT : ∀ k, (c.at_ k).a ≤ 2147483647 ∧ (c.at_ k).t.size ≤ 2147483647) (hX : wa.heap[X]? = some (.cells #[.string s] 9 (0, 0))) :
    Calls Try.prog 27 #[.func (.func 39) #[] #[.pointer (some ⟨w1.heap.size, 0, none⟩), .pointer (some ⟨X, 0, none⟩)]] (w1.alloc (.cells #[.pointer (some ⟨g, 0, none⟩)] 64))
      (CaughtOk (w1.alloc (.cells #[.pointer (some ⟨g, 0, none⟩)] 64)) (InOk wa g s L (Mid w1 (CW (w1.alloc (.cells #[.pointer (some ⟨g, 0, none⟩)] 64)))) (CW (w1.alloc (.cells #[.pointer (some ⟨g, 0, none⟩)] 64))) c l j)) := by
  refine caught_ok enterF ((pf_start hp hB hs hT hX).mono fun e w' h => ?_) (fun w' h => ?_)
  · rw [hr] at h
    obtain ⟨h1, h2, own, v0, v1, v2, v3, v4, v5, h3, h4, h5⟩ := h
    exact ⟨h3, h1, h2, own, v0, v1, v2, v3, v4, v5, h4, h5⟩
  · have hl := cw_laid (w1.alloc (.cells #[.pointer (some ⟨g, 0, none⟩)] 64))
    have hz := cw_size (w1.alloc (.cells #[.pointer (some ⟨g, 0, none⟩)] 64))
    have hz2 : (w1.alloc (.cells #[.pointer (some ⟨g, 0, none⟩)] 64)).heap.size = w1.heap.size + 1 := by simp
    exact ⟨(h.2.1 _ ⟨by omega, by omega⟩).trans hl.1, (h.2.1 _ ⟨by omega, by omega⟩).trans hl.2⟩
theorem prog_caught_err {a : Nat} (hr : programC c s.size = .error a) (hp : IsP wa w1 g s L c 0 nil6) (hB : Below wa.heap.size wa w1) (hs : s.size ≤ 2147483647) (hT : ∀ k, (c.at_ k).a ≤ 2147483647 ∧ (c.at_ k).t.size ≤ 2147483647) (hX : wa.heap[X]? = some (.cells #[.string s] 9 (0, 0))) :
    Calls Try.prog 27 #[.func (.func 39) #[] #[.pointer (some ⟨w1.heap.size, 0, none⟩), .pointer (some ⟨X, 0, none⟩)]] (w1.alloc (.cells #[.pointer (some ⟨g, 0, none⟩)] 64))
      (CaughtErr (w1.alloc (.cells #[.pointer (some ⟨g, 0, none⟩)] 64)) a (InErr wa (Mid w1 (CW (w1.alloc (.cells #[.pointer (some ⟨g, 0, none⟩)] 64)))) (CW (w1.alloc (.cells #[.pointer (some ⟨g, 0, none⟩)] 64))))) := by
  refine caught_err enterF ((pf_start hp hB hs hT hX).mono fun e w' h => ?_) (fun w' h => ?_)
  · rw [hr] at h
    obtain ⟨h1, h2, h3⟩ := h
    exact ⟨h3, h1, h2⟩
  · have hl := cw_laid (w1.alloc (.cells #[.pointer (some ⟨g, 0, none⟩)] 64))
    have hz := cw_size (w1.alloc (.cells #[.pointer (some ⟨g, 0, none⟩)] 64))
    have hz2 : (w1.alloc (.cells #[.pointer (some ⟨g, 0, none⟩)] 64)).heap.size = w1.heap.size + 1 := by simp
    exact ⟨(h.2 _ ⟨by omega, by omega⟩).trans hl.1, (h.2 _ ⟨by omega, by omega⟩).trans hl.2⟩
end

/-- What parse.Program answers. -/
def ProgPost (s : ByteArray) (w : World) (e : Ending) (w' : World) : Prop :=
  Below w.heap.size w w' ∧ match programP s with
  | .ok l => ∃ own v0 v1 v2 v3 v4 v5, e = .returned (.tuple #[.agg #[v0, v1, v2], .agg #[v3, v4, v5], .int .i64 0, .int .i64 0]) ∧ Prog6 w.heap.size w' own v0 v1 v2 v3 v4 v5 l
  | .error a => e = .returned (.tuple #[.agg #[.slice none 0 0, .slice none 0 0, .slice none 0 0], .agg #[.slice none 0 0, .slice none 0 0, .slice none 0 0], .int .i64 (a : Int), .int .i64 11])

theorem far3 {W : World} {k b t : Nat} {cs : Array Value} (h : W.heap[k]? = some (.cells cs t (0, 0))) (hk : k ≠ b) (u0 u1 u2 : Value) : (((W.setCell ⟨b, 0, none⟩ u0).setCell ⟨b, 1, none⟩ u1).setCell ⟨b, 2, none⟩ u2).heap[k]? = some (.cells cs t (0, 0)) :=
  blk_far (p := ⟨b, 2, none⟩) (blk_far (p := ⟨b, 1, none⟩) (blk_far (p := ⟨b, 0, none⟩) h hk _) hk _) hk _
theorem old_p {w1 w2 w3 : World} {g : Nat} (hin : ∀ k, Mid w1 (CW (w1.alloc (.cells #[.pointer (some ⟨g, 0, none⟩)] 64))) k → w2.heap[k]? = (CW (w1.alloc (.cells #[.pointer (some ⟨g, 0, none⟩)] 64))).heap[k]?) (_ : g < w2.heap.size)
    (ht : Turned (w1.alloc (.cells #[.pointer (some ⟨g, 0, none⟩)] 64)) w2 w3) : w3.heap[w1.heap.size]? = some (.cells #[.pointer (some ⟨g, 0, none⟩)] 64 (0, 0)) := by
  have hz := cw_size (w1.alloc (.cells #[.pointer (some ⟨g, 0, none⟩)] 64))
  have hz2 : (w1.alloc (.cells #[.pointer (some ⟨g, 0, none⟩)] 64)).heap.size = w1.heap.size + 1 := by simp
  have h2 := (hin w1.heap.size ⟨Nat.le_refl _, by omega⟩).trans (show (CW (w1.alloc (.cells #[.pointer (some ⟨g, 0, none⟩)] 64))).heap[w1.heap.size]? = some (.cells #[.pointer (some ⟨g, 0, none⟩)] 64 (0, 0)) from blk_alloc (blk_alloc (blk_new w1 _) _) _)
  exact (ht.2 _ (blk_lt h2) (by omega) (by omega)).trans h2
theorem info42s : (Try.prog.info? 42).map (·.size) = some 3 := by kernel_rfl
theorem info45s : (Try.prog.info? 45).map (·.size) = some 3 := by kernel_rfl
def WA (w : World) (s : ByteArray) : World := ((w.alloc (.cells #[.string s] 9)).alloc (.cells #[.slice none 0 0, .slice none 0 0, .slice none 0 0] 42)).alloc (.cells #[.slice none 0 0, .slice none 0 0, .slice none 0 0] 45)
theorem la2 (w : World) (s : ByteArray) : (((w.alloc (.cells #[.string s] 9)).alloc (.cells #[.slice none 0 0, .slice none 0 0, .slice none 0 0] 42)).alloc (.cells #[.slice none 0 0, .slice none 0 0, .slice none 0 0] 45)).heap[w.heap.size + 1]? = some (.cells #[.slice none 0 0, .slice none 0 0, .slice none 0 0] 42 (0, 0)) := by
  have hz : (w.alloc (.cells #[.string s] 9)).heap.size = w.heap.size + 1 := by simp
  rw [← hz]
  exact blk_alloc (blk_new _ _) _
theorem la3 (w : World) (s : ByteArray) : (((w.alloc (.cells #[.string s] 9)).alloc (.cells #[.slice none 0 0, .slice none 0 0, .slice none 0 0] 42)).alloc (.cells #[.slice none 0 0, .slice none 0 0, .slice none 0 0] 45)).heap[w.heap.size + 1 + 1]? = some (.cells #[.slice none 0 0, .slice none 0 0, .slice none 0 0] 45 (0, 0)) := by
  have hz : ((w.alloc (.cells #[.string s] 9)).alloc (.cells #[.slice none 0 0, .slice none 0 0, .slice none 0 0] 42)).heap.size = w.heap.size + 1 + 1 := by simp
  rw [← hz]
  exact blk_new _ _
set_option maxHeartbeats 8000000 in
set_option maxRecDepth 100000 in
theorem program_err {s : ByteArray} {a : Nat} (hs : s.size ≤ 2147483647) (hr : programC (src s) s.size = .error a) (w : World) :
    Calls Try.prog 14 #[.string s] w fun e w' => Below w.heap.size w w' ∧ e = .returned (.tuple #[.agg #[.slice none 0 0, .slice none 0 0, .slice none 0 0], .agg #[.slice none 0 0, .slice none 0 0, .slice none 0 0], .int .i64 (a : Int), .int .i64 11]) := by
  have hmf : ∀ (fn : Fn) (first cap : Array Value) (w : World), (Instr.makeFunc fn first cap).run Try.prog w = .ok (.func fn first cap) w := fun _ _ _ _ => rfl
  have HR := Aside0.mk hr
  have HS := Aside0.mk hs
  have HT := Aside0.mk (toks_size s).2
  clear hr hs
  go_enter Try.func14, Try.ntmps14
  go_wp2_with (first | (go_at_call 26; (with_reducible refine (begin_calls s HS.out _).mono ?_); rintro e w1 ⟨g, L, rfl, hp, hb⟩; have HP := Aside0.mk hp; have HB := Aside0.mk hb; have hz1 := hb.size; clear hp hb) | (go_at_call 27; (with_reducible refine (prog_caught_err HR.out HP.out HB.out HS.out ?t1 ?t2).mono ?_); (case t1 => exact fun k => ⟨Nat.le_trans (HT.out k).1 HS.out, Nat.le_trans (HT.out k).2 HS.out⟩); (case t2 => exact blk_alloc (blk_alloc (blk_new w _) _) _); rintro e w3 ⟨rfl, w2, hin, htu⟩; have HIN := Aside0.mk hin; have HB3 := Aside0.mk (old_err HB.out hin.1 htu); have H2 := Aside0.mk (show w3.heap[w.heap.size + 1]? = some (.cells #[.slice none 0 0, .slice none 0 0, .slice none 0 0] 42 (0, 0)) from (HB3.out.block _ (by simp)).trans (la2 w s)); have H3 := Aside0.mk (show w3.heap[w.heap.size + 1 + 1]? = some (.cells #[.slice none 0 0, .slice none 0 0, .slice none 0 0] 45 (0, 0)) from (HB3.out.block _ (by simp)).trans (la3 w s)); obtain ⟨b0, b1, b2, b3, b4, b5⟩ := cells3 H2.out; obtain ⟨e0, e1, e2, e3, e4, e5⟩ := cells3 H3.out; have hl2 := blk_lt H2.out; have hl3 := blk_lt H3.out; clear hin htu))
  have hwa := Aside0.mk (below_alloc (below_alloc (below_alloc (Below.refl w.heap.size w) (.cells #[.string s] 9)) (.cells #[.slice none 0 0, .slice none 0 0, .slice none 0 0] 42)) (.cells #[.slice none 0 0, .slice none 0 0, .slice none 0 0] 45))
  refine bodyPost_ret (results_list (rs := [.cell 2 42, .cell 3 45, .tmp 4, .tmp 5]) rfl (by simp) (.cell (w.heap.size + 1) 42 _ (0, 0) _ rfl (far3 (b := w.heap.size + 1 + 1) (blk3 H2.out) (by simp) _ _ _) Try.underlying42 rfl info42s (.cell (w.heap.size + 1 + 1) 45 _ (0, 0) _ rfl (blk3 (far3 (b := w.heap.size + 1) H3.out (by simp) _ _ _)) Try.underlying45 rfl info45s (.tmp (.tmp .nil))))) rfl ⟨?_, rfl⟩
  exact below3 (below3 (Below.trans hwa.out (HB3.out.mono (by simp; omega))) (by omega) _ _ _) (by omega) _ _ _

theorem old_g {wa w1 w2 w3 : World} {g : Nat} {o : Obj} (hg : g < w1.heap.size) (hg2 : g < w2.heap.size) (ht : Turned (w1.alloc o) w2 w3) : w3.heap[g]? = w2.heap[g]? := by
  have hz : (w1.alloc o).heap.size = w1.heap.size + 1 := by simp
  exact ht.2 g hg2 (by omega) (by omega)
set_option maxHeartbeats 8000000 in
set_option maxRecDepth 100000 in
theorem program_ok {s : ByteArray} {l : List Stm} {j : Nat} (hs : s.size ≤ 2147483647) (hr : programC (src s) s.size = .ok (l, j)) (w : World) :
    Calls Try.prog 14 #[.string s] w fun e w' => ∃ own v0 v1 v2 v3 v4 v5, e = .returned (.tuple #[.agg #[v0, v1, v2], .agg #[v3, v4, v5], .int .i64 0, .int .i64 0]) ∧ Below w.heap.size w w' ∧ Prog6 w.heap.size w' own v0 v1 v2 v3 v4 v5 l := by
  have hmf : ∀ (fn : Fn) (first cap : Array Value) (w : World), (Instr.makeFunc fn first cap).run Try.prog w = .ok (.func fn first cap) w := fun _ _ _ _ => rfl
  have HR := Aside0.mk hr
  have HS := Aside0.mk hs
  have HT := Aside0.mk (toks_size s).2
  clear hr hs
  go_enter Try.func14, Try.ntmps14
  go_upto_region 5 with (first | (go_at_call 26; (with_reducible refine (begin_calls s HS.out _).mono ?_); rintro e w1 ⟨g, L, rfl, hp, hb⟩; have HP := Aside0.mk hp; have HB := Aside0.mk hb; have hz1 := hb.size; have hgl := hp.lt; clear hp hb) | (go_at_call 27; (with_reducible refine (prog_caught_ok HR.out HP.out HB.out HS.out ?t1 ?t2).mono ?_); (case t1 => exact fun k => ⟨Nat.le_trans (HT.out k).1 HS.out, Nat.le_trans (HT.out k).2 HS.out⟩); (case t2 => exact blk_alloc (blk_alloc (blk_new w _) _) _); rintro e w3 ⟨rfl, w2, hin, htu⟩; obtain ⟨hin1, hin2, own, v0, v1, v2, v3, v4, v5, hin3, hin4⟩ := hin; obtain ⟨a0, c0, rfl⟩ := Kd.R_slice hin4.r0; obtain ⟨a1, c1, rfl⟩ := Kd.R_slice hin4.r1; obtain ⟨a2, c2, rfl⟩ := Kd.R_slice hin4.r2; obtain ⟨a3, c3, rfl⟩ := Kd.R_slice hin4.r3; obtain ⟨a4, c4, rfl⟩ := Kd.R_slice hin4.r4; obtain ⟨a5, c5, rfl⟩ := Kd.R_slice hin4.r5; have HRW := Aside0.mk hin4; have HTU := Aside0.mk htu; have HB3 := Aside0.mk (old_err HB.out hin1 htu); have HG3 := Aside0.mk ((old_g (wa := w) hgl hin3.lt htu).trans hin3.1); have HPV := Aside0.mk (old_p hin2 hin3.lt htu); have H2 := Aside0.mk (show w3.heap[w.heap.size + 1]? = some (.cells #[.slice none 0 0, .slice none 0 0, .slice none 0 0] 42 (0, 0)) from (HB3.out.block _ (by simp)).trans (la2 w s)); have H3 := Aside0.mk (show w3.heap[w.heap.size + 1 + 1]? = some (.cells #[.slice none 0 0, .slice none 0 0, .slice none 0 0] 45 (0, 0)) from (HB3.out.block _ (by simp)).trans (la3 w s)); obtain ⟨b0, b1, b2, b3, b4, b5⟩ := cells3 H2.out; obtain ⟨e0, e1, e2, e3, e4, e5⟩ := cells3 H3.out; obtain ⟨z0, z1, z2, z3, z4, z5, f0, f1, f2, f3, f4, f5⟩ := pcq (show PBlk w3 g s L (src s) _ _ from HG3.out); obtain ⟨q0, q1⟩ := one_cell HPV.out; clear f0 f1 f2 f3 f4 f5 q1; have hl2 := blk_lt H2.out; have hl3 := blk_lt H3.out; have hgz : w.heap.size + 3 ≤ g := (by have := hin3.ge; simp at this; omega); have hwz : w.heap.size + 3 ≤ w1.heap.size := (by simp at hz1; omega); have n1 : w1.heap.size ≠ w.heap.size + 1 := (by omega); have n2 : w1.heap.size ≠ w.heap.size + 1 + 1 := (by omega); have n3 : g ≠ w.heap.size + 1 := (by omega); have n4 : g ≠ w.heap.size + 1 + 1 := (by omega); clear hin1 hin2 hin3 hin4 htu hgz hwz hz1))
  go_region
  all_goals
    go_wp2
    have hwa := Aside0.mk (below_alloc (below_alloc (below_alloc (Below.refl w.heap.size w) (.cells #[.string s] 9)) (.cells #[.slice none 0 0, .slice none 0 0, .slice none 0 0] 42)) (.cells #[.slice none 0 0, .slice none 0 0, .slice none 0 0] 45))
    refine bodyPost_ret (results_list (rs := [.cell 2 42, .cell 3 45, .tmp 4, .tmp 5]) rfl (by simp) (.cell (w.heap.size + 1) 42 _ (0, 0) _ rfl (blk_drew (far3 (b := w.heap.size + 1 + 1) (blk3 H2.out) (by simp) _ _ _)) Try.underlying42 rfl info42s (.cell (w.heap.size + 1 + 1) 45 _ (0, 0) _ rfl (blk_drew (blk3 (far3 (b := w.heap.size + 1) H3.out (by simp) _ _ _))) Try.underlying45 rfl info45s (.tmp (.tmp .nil))))) rfl ⟨own, _, _, _, _, _, _, rfl, ?_, ?_⟩
    · exact below_drew1 (below3 (below3 (Below.trans hwa.out (HB3.out.mono (by simp; omega))) (by omega) _ _ _) (by omega) _ _ _)
    · refine HRW.out.prog (by simp; omega) (fun k ho h1 h2 => ?_)
      have h3 : w.heap.size + 3 ≤ k := by simp at h1; omega
      have hz := cw_size (w1.alloc (.cells #[.pointer (some ⟨g, 0, none⟩)] 64))
      have hz2 : (w1.alloc (.cells #[.pointer (some ⟨g, 0, none⟩)] 64)).heap.size = w1.heap.size + 1 := by simp
      refine Eq.trans ?_ (HTU.out.2 k h2 (fun e => ho (HRW.out.s0 k ⟨by omega, by omega⟩).1) (fun e => ho (HRW.out.s0 k ⟨by omega, by omega⟩).1))
      show (World.setCell _ _ _).heap[k]? = _
      rw [Below.heap_setCell _ _ _ k (by simp; omega), Below.heap_setCell _ _ _ k (by simp; omega), Below.heap_setCell _ _ _ k (by simp; omega), Below.heap_setCell _ _ _ k (by simp; omega), Below.heap_setCell _ _ _ k (by simp; omega), Below.heap_setCell _ _ _ k (by simp; omega)]

theorem program_calls (s : ByteArray) (hs : s.size ≤ 2147483647) (w : World) : Calls Try.prog 14 #[.string s] w (ProgPost s w) := by
  cases hr : programC (src s) s.size with
  | error a =>
    refine (program_err hs hr w).mono fun e w' h => ?_
    unfold ProgPost programP
    rw [hr]; exact h
  | ok r =>
    obtain ⟨l, j⟩ := r
    refine (program_ok hs hr w).mono fun e w' h => ?_
    obtain ⟨own, v0, v1, v2, v3, v4, v5, h1, h2, h3⟩ := h
    unfold ProgPost programP
    rw [hr]; exact ⟨h2, own, v0, v1, v2, v3, v4, v5, h1, h3⟩
end Go.Proofs.Ytdodajpiidkglaa.K
