/- (*parser).statement: the walk. Conditions: the parser lies in memory as 'IsP' and 'Rows6' say; sizes are of a machine's. -/
import Derived.Test.YtdodajpiidkglaaKGather
namespace Go.Proofs.Ytdodajpiidkglaa.K
open Go.RowKit Go.Proofs.YtdodajpiidkglaaW.PrintWords Go.Proofs.YtdodajpiidkglaaW.PrintLast Go.Proofs.YtdodajpiidkglaaW.PrintMore Go.Proofs.Ytdodajpiidkglaa.PAll
set_option linter.unusedVariables false
set_option linter.unusedSimpArgs false

theorem Wants.drew {W : World} {v : Value} {wl : List Nat} (h : Wants W v wl) : Wants W.drew v wl := h.below (fun ad j u hu => hu)
def SEnd (w0 : World) (g : Nat) (s : ByteArray) (L : Value) (S : Nat → Prop) (wS : World) (c : Src) (A : List S86) (B : List S88) (C : List S29) (D E F : List Int) (r : Except Nat (Stm × Nat)) (e : Ending) (w' : World) : Prop :=
  Below w0.heap.size w0 w' ∧ match r with
  | .ok (x, j) => ∃ own v0 v1 v2 v3 v4 v5, e = .returned (.tuple #[]) ∧ IsP w0 w' g s L c j [v0, v1, v2, v3, v4, v5] ∧ Rows6 w0 w' g L S wS own v0 v1 v2 v3 v4 v5 (A ++ insOf [x]) (B ++ outsOf [x]) (C ++ rulesOf [x]) (D ++ insAt [x]) (E ++ outsAt [x]) (F ++ rulesAt [x])
  | .error a => e = faultE a ∧ ∀ k, S k → w'.heap[k]? = wS.heap[k]?
section
variable {S : Nat → Prop} {wS : World} {w0 w' : World} {g : Nat} {s : ByteArray} {L : Value} {c : Src} {A A2 : List S86} {B B2 : List S88} {C C2 : List S29} {D E F D2 E2 F2 : List Int} {r : Except Nat (Stm × Nat)} {e : Ending} {own : Nat → Nat} {v0 v1 v2 v3 v4 v5 : Value} {j a : Nat}
theorem SEnd.of_err (hB : Below w0.heap.size w0 w') (hS : ∀ k, S k → w'.heap[k]? = wS.heap[k]?) (hr : r = .error a) : SEnd w0 g s L S wS c A B C D E F r (faultE a) w' := by
  subst hr; exact ⟨hB, rfl, hS⟩
theorem SEnd.of_inp {x : S86} (hA : A ++ [x] = A2) (hD : D ++ [(a : Int)] = D2) (hB : Below w0.heap.size w0 w') (hP : IsP w0 w' g s L c j [v0, v1, v2, v3, v4, v5]) (hR : Rows6 w0 w' g L S wS own v0 v1 v2 v3 v4 v5 A2 B C D2 E F) (hr : r = .ok (.inp x a, j)) : SEnd w0 g s L S wS c A B C D E F r (.returned (.tuple #[])) w' := by
  subst hr hA hD
  refine ⟨hB, own, v0, v1, v2, v3, v4, v5, rfl, hP, ?_⟩
  simpa [insOf, outsOf, rulesOf, insAt, outsAt, rulesAt] using hR
theorem SEnd.of_out {x : S88} (hA : B ++ [x] = B2) (hD : E ++ [(a : Int)] = E2) (hB : Below w0.heap.size w0 w') (hP : IsP w0 w' g s L c j [v0, v1, v2, v3, v4, v5]) (hR : Rows6 w0 w' g L S wS own v0 v1 v2 v3 v4 v5 A B2 C D E2 F) (hr : r = .ok (.out x a, j)) : SEnd w0 g s L S wS c A B C D E F r (.returned (.tuple #[])) w' := by
  subst hr hA hD
  refine ⟨hB, own, v0, v1, v2, v3, v4, v5, rfl, hP, ?_⟩
  simpa [insOf, outsOf, rulesOf, insAt, outsAt, rulesAt] using hR
theorem SEnd.of_rul {x : S29} (hA : C ++ [x] = C2) (hD : F ++ [(a : Int)] = F2) (hB : Below w0.heap.size w0 w') (hP : IsP w0 w' g s L c j [v0, v1, v2, v3, v4, v5]) (hR : Rows6 w0 w' g L S wS own v0 v1 v2 v3 v4 v5 A B C2 D E F2) (hr : r = .ok (.rul x a, j)) : SEnd w0 g s L S wS c A B C D E F r (.returned (.tuple #[])) w' := by
  subst hr hA hD
  refine ⟨hB, own, v0, v1, v2, v3, v4, v5, rfl, hP, ?_⟩
  simpa [insOf, outsOf, rulesOf, insAt, outsAt, rulesAt] using hR
end
set_option maxHeartbeats 8000000 in
set_option maxRecDepth 100000 in
theorem stm_calls {w0 w : World} {g : Nat} {s : ByteArray} {L : Value} {c : Src} {i : Nat} {S : Nat → Prop} {wS : World} {own : Nat → Nat} {v0 v1 v2 v3 v4 v5 : Value} {A : List S86} {B : List S88} {C : List S29} {D E F : List Int} (hp : IsP w0 w g s L c i [v0, v1, v2, v3, v4, v5]) (hR : Rows6 w0 w g L S wS own v0 v1 v2 v3 v4 v5 A B C D E F) (hi : i ≤ c.T.length) (hB : Below w0.heap.size w0 w) (hT : ∀ k, (c.at_ k).a ≤ 2147483647 ∧ (c.at_ k).t.size ≤ 2147483647)
    (hN : A.length ≤ 2147483647 ∧ B.length ≤ 2147483647 ∧ C.length ≤ 2147483647 ∧ D.length ≤ 2147483647 ∧ E.length ≤ 2147483647 ∧ F.length ≤ 2147483647) :
    Calls Try.prog 40 #[.pointer (some ⟨g, 0, none⟩)] w (SEnd w0 g s L S wS c A B C D E F (statementP c i)) := by
  generalize hr : statementP c i = r
  obtain ⟨hnA, hnB, hnC, hnD, hnE, hnF⟩ := hN
  obtain ⟨a0, c0, rfl⟩ := Kd.R_slice hR.r0
  obtain ⟨a1, c1, rfl⟩ := Kd.R_slice hR.r1
  obtain ⟨a2, c2, rfl⟩ := Kd.R_slice hR.r2
  obtain ⟨a3, c3, rfl⟩ := Kd.R_slice hR.r3
  obtain ⟨a4, c4, rfl⟩ := Kd.R_slice hR.r4
  obtain ⟨a5, c5, rfl⟩ := Kd.R_slice hR.r5
  have hgl := hp.lt
  have HGE := Aside0.mk hp.ge
  have HI := Aside0.mk hi
  have HP := Aside0.mk hp
  have HB := Aside0.mk hB
  have HR := Aside0.mk hR
  have HTT := Aside0.mk hT
  have hlen := hp.2.2.2
  clear hp hB hT hR
  unfold statementP at hr
  cases h1 : takeP c i [1, 5, 6] with
  | error a =>
    rw [h1] at hr
    simp only at hr
    have HQR := Aside0.mk hr
    have HT := Aside0.mk h1
    clear hr h1
    go_enter Try.func40, Try.ntmps40
    go_wp2_with (first | (go_at_call 30; (with_reducible refine (take_err (w0 := w0) (s := s) (L := L) (q := [.slice a0 A.length c0, .slice a1 B.length c1, .slice a2 C.length c2, .slice a3 D.length c3, .slice a4 E.length c4, .slice a5 F.length c5]) (h := HT.out) ?h1 ?h2 ?h3 ?h4 ?h5 ?h6).mono ?_); (case h1 => repeat (first | exact HP.out | apply IsP.alloc | apply IsP.drewN | apply IsP.drew | apply IsP.step1)); (case h2 => exact HI.out); (case h3 => repeat (first | exact HB.out | apply below_alloc | apply pw_below_drewN | apply below_drew1 | refine below_set ?_ HGE.out)); (case h4 => repeat (first | exact Wants.of_new (by simp) rfl rfl | apply Wants.drewN | apply Wants.drew)); (case h5 => decide); (case h6 => decide); rintro e w2 ⟨rfl, hk, hb⟩; have HSE0 : Aside0 (Rows6 w0 w2 g L S wS own (.slice a0 A.length c0) (.slice a1 B.length c1) (.slice a2 C.length c2) (.slice a3 D.length c3) (.slice a4 E.length c4) (.slice a5 F.length c5) A B C D E F) := ⟨Rows6.keep (by repeat (first | exact HR.out | apply Rows6.alloc | apply Rows6.drewN | apply Rows6.drew)) hk⟩; have HSE := Aside0.mk (fun k hk => (HSE0.out.s0 k hk).2.2.2); have HBE := Aside0.mk hb; clear hk hb HSE0))
    exact ⟨rfl, SEnd.of_err HBE.out HSE.out HQR.out.symm⟩
  | ok r1 =>
    obtain ⟨t, i1⟩ := r1
    rw [h1] at hr
    simp only at hr
    have HI1 := Aside0.mk (takeP_lt (by decide) h1).2.1
    have HT := Aside0.mk h1
    clear h1
    go_enter Try.func40, Try.ntmps40
    go_upto_region 1 with (first | (go_at_call 30; (with_reducible refine (take_ok (w0 := w0) (s := s) (L := L) (q := [.slice a0 A.length c0, .slice a1 B.length c1, .slice a2 C.length c2, .slice a3 D.length c3, .slice a4 E.length c4, .slice a5 F.length c5]) (h := HT.out) ?h1 ?h2 ?h3 ?h4 ?h5 ?h6).mono ?_); (case h1 => repeat (first | exact HP.out | apply IsP.alloc | apply IsP.drewN | apply IsP.drew | apply IsP.step1)); (case h2 => exact HI.out); (case h3 => repeat (first | exact HB.out | apply below_alloc | apply pw_below_drewN | apply below_drew1 | refine below_set ?_ HGE.out)); (case h4 => repeat (first | exact Wants.of_new (by simp) rfl rfl | apply Wants.drewN | apply Wants.drew)); (case h5 => decide); (case h6 => decide); rintro e w2 ⟨rfl, hp, hk, hb⟩; have nHR : Aside0 (Rows6 w0 w2 g L S wS own (.slice a0 A.length c0) (.slice a1 B.length c1) (.slice a2 C.length c2) (.slice a3 D.length c3) (.slice a4 E.length c4) (.slice a5 F.length c5) A B C D E F) := ⟨Rows6.keep (by repeat (first | exact HR.out | apply Rows6.alloc | apply Rows6.drewN | apply Rows6.drew)) hk⟩; have nHB := Aside0.mk hb; have nHP := Aside0.mk hp; clear hk hb hp; clear HR HB HP; have HR := nHR; have HB := nHB; have HP := nHP; clear nHR nHB nHP))
    have HZ := Aside0.mk (blk_new w2 (.cells #[.int .i64 (t.k : Int), .string t.t, .int .i64 (t.a : Int), .int .i64 (t.e : Int)] 71))
    have nHP := Aside0.mk (HP.out.alloc (.cells #[.int .i64 (t.k : Int), .string t.t, .int .i64 (t.a : Int), .int .i64 (t.e : Int)] 71))
    have nHR := Aside0.mk (HR.out.alloc (.cells #[.int .i64 (t.k : Int), .string t.t, .int .i64 (t.a : Int), .int .i64 (t.e : Int)] 71))
    have nHB := Aside0.mk (below_alloc HB.out (.cells #[.int .i64 (t.k : Int), .string t.t, .int .i64 (t.a : Int), .int .i64 (t.e : Int)] 71))
    have HBG := Aside0.mk (show w2.heap.size ≠ g from Nat.ne_of_gt HP.out.lt)
    clear HP HR HB HT
    generalize w2.alloc (.cells #[.int .i64 (t.k : Int), .string t.t, .int .i64 (t.a : Int), .int .i64 (t.e : Int)] 71) = W at *
    generalize w2.heap.size = b at *
    have HP := nHP
    have HR := nHR
    have HB := nHB
    clear nHP nHR nHB
    obtain ⟨y0, y1, y2, y3⟩ := cells4 HZ.out
    have hgl1 := HP.out.lt
    have hbl := blk_lt HZ.out
    by_cases h5 : t.k = 5
    · have b5 : ((t.k : Int) == 5) = true := beq_iff_eq.2 (by omega)
      rw [if_pos h5] at hr
      clear h5
      go_upto_region 5 with (fail)
      clear y0 y1 y3
      cases ha : arityQ c i1 with
      | error a =>
        rw [ha] at hr
        simp only at hr
        have HQR := Aside0.mk hr
        have HT := Aside0.mk ha
        clear hr ha
        go_wp2_with (first | (go_at_call 63; (with_reducible refine (arity_err (w0 := w0) (s := s) (L := L) (q := [.slice a0 A.length c0, .slice a1 B.length c1, .slice a2 C.length c2, .slice a3 D.length c3, .slice a4 E.length c4, .slice a5 F.length c5]) (h := HT.out) ?h1 ?h2 ?h3 HTT.out).mono ?_); (case h1 => repeat (first | exact HP.out | apply IsP.alloc | apply IsP.drewN | apply IsP.drew | apply IsP.step1)); (case h2 => exact HI1.out); (case h3 => repeat (first | exact HB.out | apply below_alloc | apply pw_below_drewN | apply below_drew1 | refine below_set ?_ HGE.out)); rintro e w2 ⟨rfl, hk, hb⟩; have HSE0 : Aside0 (Rows6 w0 w2 g L S wS own (.slice a0 A.length c0) (.slice a1 B.length c1) (.slice a2 C.length c2) (.slice a3 D.length c3) (.slice a4 E.length c4) (.slice a5 F.length c5) A B C D E F) := ⟨Rows6.keep (by repeat (first | exact HR.out | apply Rows6.alloc | apply Rows6.drewN | apply Rows6.drew)) hk⟩; have HSE := Aside0.mk (fun k hk => (HSE0.out.s0 k hk).2.2.2); have HBE := Aside0.mk hb; clear hk hb HSE0))
        exact ⟨rfl, SEnd.of_err HBE.out HSE.out HQR.out.symm⟩
      | ok r2 =>
        obtain ⟨pn, i2⟩ := r2
        rw [ha] at hr
        simp only at hr
        have HI2 := Aside0.mk (arityQ_le ha).2
        have HT := Aside0.mk ha
        clear ha
        go_upto_region 6 with (first | (go_at_call 63; (with_reducible refine (arity_ok (w0 := w0) (s := s) (L := L) (q := [.slice a0 A.length c0, .slice a1 B.length c1, .slice a2 C.length c2, .slice a3 D.length c3, .slice a4 E.length c4, .slice a5 F.length c5]) (h := HT.out) ?h1 ?h2 ?h3 HTT.out).mono ?_); (case h1 => repeat (first | exact HP.out | apply IsP.alloc | apply IsP.drewN | apply IsP.drew | apply IsP.step1)); (case h2 => exact HI1.out); (case h3 => repeat (first | exact HB.out | apply below_alloc | apply pw_below_drewN | apply below_drew1 | refine below_set ?_ HGE.out)); rintro e w2 ⟨rfl, hp, hk, hb⟩; have nHZ : Aside0 (w2.heap[b]? = some (.cells #[.int .i64 (t.k : Int), .string t.t, .int .i64 (t.a : Int), .int .i64 (t.e : Int)] 71 (0, 0))) := ⟨KeepBut.blk (o := .cells #[.int .i64 (t.k : Int), .string t.t, .int .i64 (t.a : Int), .int .i64 (t.e : Int)] 71 (0, 0)) hk (by repeat (first | exact HZ.out | refine blk_alloc ?_ _ | refine blk_drewN ?_ _ | refine blk_drew ?_)) HBG.out (by simp)⟩; have nHR : Aside0 (Rows6 w0 w2 g L S wS own (.slice a0 A.length c0) (.slice a1 B.length c1) (.slice a2 C.length c2) (.slice a3 D.length c3) (.slice a4 E.length c4) (.slice a5 F.length c5) A B C D E F) := ⟨Rows6.keep (by repeat (first | exact HR.out | apply Rows6.alloc | apply Rows6.drewN | apply Rows6.drew)) hk⟩; have nHB := Aside0.mk hb; have nHP := Aside0.mk hp; clear hk hb hp; clear HZ HR HB HP; have HZ := nHZ; have HR := nHR; have HB := nHB; have HP := nHP; clear nHZ nHR nHB nHP; obtain ⟨y0, y1, y2, y3⟩ := cells4 HZ.out; clear y0 y1 y3; obtain ⟨z0, z1, z2, z3, z4, z5, f0, f1, f2, f3, f4, f5⟩ := pcq HP.out.1; clear z1 z2 z3 z4 z5 f1 f2 f3 f4 f5; have hgl3 := HP.out.lt; have hbl3 := blk_lt HZ.out))
        clear HT
        cases hs : takeP c i2 [4] with
        | error a =>
          rw [hs] at hr
          simp only at hr
          have HQR := Aside0.mk hr
          have HT := Aside0.mk hs
          clear hr hs
          go_region_with (first | (go_at_call 30; (with_reducible refine (take_err (w0 := w0) (s := s) (L := L) (q := [.slice a0 A.length c0, .slice a1 B.length c1, .slice a2 C.length c2, .slice a3 D.length c3, .slice a4 E.length c4, .slice a5 F.length c5]) (h := HT.out) ?h1 ?h2 ?h3 ?h4 ?h5 ?h6).mono ?_); (case h1 => repeat (first | exact HP.out | apply IsP.alloc | apply IsP.drewN | apply IsP.drew | apply IsP.step1)); (case h2 => exact HI2.out); (case h3 => repeat (first | exact HB.out | apply below_alloc | apply pw_below_drewN | apply below_drew1 | refine below_set ?_ HGE.out)); (case h4 => repeat (first | exact Wants.of_new (by simp) rfl rfl | apply Wants.drewN | apply Wants.drew)); (case h5 => decide); (case h6 => decide); rintro e w2 ⟨rfl, hk, hb⟩; have HSE0 : Aside0 (Rows6 w0 w2 g L S wS own (.slice a0 A.length c0) (.slice a1 B.length c1) (.slice a2 C.length c2) (.slice a3 D.length c3) (.slice a4 E.length c4) (.slice a5 F.length c5) A B C D E F) := ⟨Rows6.keep (by repeat (first | exact HR.out | apply Rows6.alloc | apply Rows6.drewN | apply Rows6.drew)) hk⟩; have HSE := Aside0.mk (fun k hk => (HSE0.out.s0 k hk).2.2.2); have HBE := Aside0.mk hb; clear hk hb HSE0; dsimp only; refine by_none (w := w2) (⟨rfl, SEnd.of_err HBE.out HSE.out HQR.out.symm⟩) ?_))
          all_goals trivial
        | ok r3 =>
          obtain ⟨u, i3⟩ := r3
          rw [hs] at hr
          simp only at hr
          have HI3 := Aside0.mk (takeP_lt (by decide) hs).2.1
          have HT := Aside0.mk hs
          clear hs
          have hfd := fun w => field71_1 (.int .i64 (u.k : Int)) (.string u.t) (.int .i64 (u.a : Int)) (.int .i64 (u.e : Int)) w
          obtain ⟨own1, hR1, hF1, _⟩ := HR.out.renew hgl3 HP.out.own_lt 1
          have HF0 := Aside0.mk (show ∀ k, w2.heap.size ≤ k → own1 k = 1 from hF1)
          clear HR hF1
          have HR := Aside0.mk hR1
          clear hR1
          go_cut [61] (fun v61 w4 => ∃ own2 u0 A2, Aside0 (A ++ [(⟨pn.1, (pn.2 : Int), u.t⟩ : S86)] = A2) ∧ Aside0 (IsP w0 w4 g s L c i3 [u0, (.slice a1 B.length c1), (.slice a2 C.length c2), (.slice a3 D.length c3), (.slice a4 E.length c4), (.slice a5 F.length c5)]) ∧ Aside0 (Rows6 w0 w4 g L S wS own2 u0 (.slice a1 B.length c1) (.slice a2 C.length c2) (.slice a3 D.length c3) (.slice a4 E.length c4) (.slice a5 F.length c5) A2 B C D E F) ∧ Aside0 (w4.heap[b]? = some (.cells #[.int .i64 (t.k : Int), .string t.t, .int .i64 (t.a : Int), .int .i64 (t.e : Int)] 71 (0, 0))) ∧ Aside0 (Below w0.heap.size w0 w4))
          case first =>
            go_region_law (first | (refine Kd.R_append_step k86 w0.heap.size rfl (.tmp 52) (.tmp 60) 38 86 (.agg #[.string ⟨#[]⟩, .int .i64 0, .string ⟨#[]⟩]) 40 rfl Try.underlying38 info86 rfl (by decide) (by omega) (.slice a0 A.length c0) A (⟨pn.1, (pn.2 : Int), u.t⟩ : S86) [.string pn.1, .int .i64 (pn.2 : Int), .string u.t] (fun k => own1 k = 1) (fun _ => False) rfl rfl ?aP ?aK ?aF ?aO (Below.refl _ _) ?aS ?aL ?_; (case aP => exact k86_mkM _ _ _ _); (case aK => exact (fun _ hk => hk.elim)); (case aF => exact HF.out); (case aO => exact HR.out.r0); (case aS => exact HB.out.size); (case aL => omega); intro v3 w3 ho hb hg hat; generalize hq : A ++ [(⟨pn.1, (pn.2 : Int), u.t⟩ : S86)] = A2 at ho; have HQ0 := Aside0.mk hq; have nHR : Aside0 (Rows6 w0 w3 g L S wS own1 v3 (.slice a1 B.length c1) (.slice a2 C.length c2) (.slice a3 D.length c3) (.slice a4 E.length c4) (.slice a5 F.length c5) A2 B C D E F) := ⟨by subst hq; exact HR.out.app0 ho hg⟩; have nHP : Aside0 (IsP w0 w3 g s L c i3 [(.slice a0 A.length c0), (.slice a1 B.length c1), (.slice a2 C.length c2), (.slice a3 D.length c3), (.slice a4 E.length c4), (.slice a5 F.length c5)]) := ⟨HP.out.app0 HR.out hg⟩; have nHB := Aside0.mk (below_weaken HB.out (Nat.le_refl _) hb); have nHZ : Aside0 (w3.heap[b]? = some (.cells #[.int .i64 (t.k : Int), .string t.t, .int .i64 (t.a : Int), .int .i64 (t.e : Int)] 71 (0, 0))) := ⟨blk_grown HZ.out hg (Kd.R_ne HR.out.r0 HZ.out (by decide))⟩; clear ho hb hg hat hq HF; clear HR HP HB HZ; have HR := nHR; have HP := nHP; have HB := nHB; have HZ := nHZ; clear nHR nHP nHB nHZ; obtain ⟨Aq, cq, rfl⟩ := Kd.R_slice HR.out.r0; obtain ⟨z0, z1, z2, z3, z4, z5, f0, f1, f2, f3, f4, f5⟩ := pcq HP.out.1; have hgl3 := HP.out.lt) | (go_simp; go_wp2_with (first | (go_at_call 30; (with_reducible refine (take_ok (w0 := w0) (s := s) (L := L) (q := [.slice a0 A.length c0, .slice a1 B.length c1, .slice a2 C.length c2, .slice a3 D.length c3, .slice a4 E.length c4, .slice a5 F.length c5]) (h := HT.out) ?h1 ?h2 ?h3 ?h4 ?h5 ?h6).mono ?_); (case h1 => repeat (first | exact HP.out | apply IsP.alloc | apply IsP.drewN | apply IsP.drew | apply IsP.step1)); (case h2 => exact HI2.out); (case h3 => repeat (first | exact HB.out | apply below_alloc | apply pw_below_drewN | apply below_drew1 | refine below_set ?_ HGE.out)); (case h4 => repeat (first | exact Wants.of_new (by simp) rfl rfl | apply Wants.drewN | apply Wants.drew)); (case h5 => decide); (case h6 => decide); rintro e w6 ⟨rfl, hp, hk, hb⟩; have nHZ : Aside0 (w6.heap[b]? = some (.cells #[.int .i64 (t.k : Int), .string t.t, .int .i64 (t.a : Int), .int .i64 (t.e : Int)] 71 (0, 0))) := ⟨KeepBut.blk (o := .cells #[.int .i64 (t.k : Int), .string t.t, .int .i64 (t.a : Int), .int .i64 (t.e : Int)] 71 (0, 0)) hk (by repeat (first | exact HZ.out | refine blk_alloc ?_ _ | refine blk_drewN ?_ _ | refine blk_drew ?_)) HBG.out (by simp)⟩; have nHR : Aside0 (Rows6 w0 w6 g L S wS own1 (.slice a0 A.length c0) (.slice a1 B.length c1) (.slice a2 C.length c2) (.slice a3 D.length c3) (.slice a4 E.length c4) (.slice a5 F.length c5) A B C D E F) := ⟨Rows6.keep (by repeat (first | exact HR.out | apply Rows6.alloc | apply Rows6.drewN | apply Rows6.drew)) hk⟩; have nHB := Aside0.mk hb; have nHP := Aside0.mk hp; have HF := Aside0.mk (show ∀ k, w6.heap.size ≤ k → own1 k = 1 from fun k hk2 => HF0.out k (Nat.le_trans (KeepBut.trans (w := w2) (g := g) (row := none) (by repeat (first | exact KeepBut.refl _ _ _ | apply keep_drewN | apply keep_drew | apply keep_alloc)) hk (.inl rfl)).1 hk2)); clear HF0; clear hk hb hp; clear HZ HR HB HP; have HZ := nHZ; have HR := nHR; have HB := nHB; have HP := nHP; clear nHZ nHR nHB nHP; obtain ⟨z0, z1, z2, z3, z4, z5, f0, f1, f2, f3, f4, f5⟩ := pcq HP.out.1; clear z1 z2 z3 z4 z5 f1 f2 f3 f4 f5; have hgl4 := HP.out.lt))))
            all_goals (have nHP : Aside0 (IsP w0 (w3.setCell ⟨g, 8, none⟩ (.slice Aq A2.length cq)) g s L c i3 [(.slice Aq A2.length cq), (.slice a1 B.length c1), (.slice a2 C.length c2), (.slice a3 D.length c3), (.slice a4 E.length c4), (.slice a5 F.length c5)]) := ⟨HP.out.put0 _⟩; have nHR : Aside0 (Rows6 w0 (w3.setCell ⟨g, 8, none⟩ (.slice Aq A2.length cq)) g L S wS own1 (.slice Aq A2.length cq) (.slice a1 B.length c1) (.slice a2 C.length c2) (.slice a3 D.length c3) (.slice a4 E.length c4) (.slice a5 F.length c5) A2 B C D E F) := ⟨HR.out.setg 8 _⟩; have nHB : Aside0 (Below w0.heap.size w0 (w3.setCell ⟨g, 8, none⟩ (.slice Aq A2.length cq))) := ⟨HB.out.setCell (p := ⟨g, 8, none⟩) HGE.out _⟩; have nHZ : Aside0 ((w3.setCell ⟨g, 8, none⟩ (.slice Aq A2.length cq)).heap[b]? = some (.cells #[.int .i64 (t.k : Int), .string t.t, .int .i64 (t.a : Int), .int .i64 (t.e : Int)] 71 (0, 0))) := ⟨blk_far (p := ⟨g, 8, none⟩) HZ.out HBG.out _⟩; clear HP HR HB HZ; have HP := nHP; have HR := nHR; have HB := nHB; have HZ := nHZ; clear nHP nHR nHB nHZ; go_step; go_step; go_meet; exact ⟨_, _, _, HQ0, HP, HR, HZ, HB⟩)
          case rest =>
          obtain ⟨own2, u0, A2, HQ0, HP, HR, HZ, HB⟩ := hcut
          obtain ⟨y0, y1, y2, y3⟩ := cells4 HZ.out
          clear y0 y1 y3
          obtain ⟨z0, z1, z2, z3, z4, z5, f0, f1, f2, f3, f4, f5⟩ := pcq HP.out.1
          clear z0 z1 z2 z4 z5 f0 f1 f2 f4 f5
          have hgl5 := HP.out.lt
          have hbl5 := blk_lt HZ.out
          obtain ⟨own3, hR3, hF3, _⟩ := HR.out.renew hgl5 HP.out.own_lt 4
          have HF := Aside0.mk (show ∀ k, wc.heap.size ≤ k → own3 k = 4 from hF3)
          clear HR hF3
          have HR := Aside0.mk hR3
          clear hR3
          go_upto_region 7 with (fail)
          go_region_law (first | (refine Kd.R_append_step (W := wc.drew) (Kd.int .i64) w0.heap.size rfl (.tmp 70) (.tmp 73) 43 3 (.int .i64 0) 8 rfl Try.underlying43 infoI rfl (by decide) (by omega) (.slice a3 D.length c3) D (t.a : Int) [.int .i64 (t.a : Int)] (fun k => own3 k = 4) (fun _ => False) rfl rfl ?aP ?aK ?aF ?aO (Below.refl _ _) ?aS ?aL ?_; (case aP => exact rfl); (case aK => exact (fun _ hk => hk.elim)); (case aF => exact HF.out); (case aO => exact HR.out.drew.r3); (case aS => exact HB.out.size); (case aL => omega); intro v3 w3 ho hb hg hat; generalize hq : D ++ [(t.a : Int)] = D2 at ho; have HQ3 := Aside0.mk hq; have nHR : Aside0 (Rows6 w0 w3 g L S wS own3 u0 (.slice a1 B.length c1) (.slice a2 C.length c2) v3 (.slice a4 E.length c4) (.slice a5 F.length c5) A2 B C D2 E F) := ⟨by subst hq; exact HR.out.drew.app3 ho hg⟩; have nHP : Aside0 (IsP w0 w3 g s L c i3 [u0, (.slice a1 B.length c1), (.slice a2 C.length c2), (.slice a3 D.length c3), (.slice a4 E.length c4), (.slice a5 F.length c5)]) := ⟨HP.out.drew.app3 HR.out.drew hg⟩; have nHB := Aside0.mk (below_weaken (below_drew1 HB.out) (Nat.le_refl _) hb); have nHZ : Aside0 (w3.heap[b]? = some (.cells #[.int .i64 (t.k : Int), .string t.t, .int .i64 (t.a : Int), .int .i64 (t.e : Int)] 71 (0, 0))) := ⟨blk_grown (blk_drew HZ.out) hg (Kd.R_ne HR.out.drew.r3 (blk_drew HZ.out) (by decide))⟩; clear ho hb hg hat hq HF; clear HR HP HB HZ; have HR := nHR; have HP := nHP; have HB := nHB; have HZ := nHZ; clear nHR nHP nHB nHZ; obtain ⟨Aq, cq, rfl⟩ := Kd.R_slice HR.out.r3; obtain ⟨z0, z1, z2, z3, z4, z5, f0, f1, f2, f3, f4, f5⟩ := pcq HP.out.1; have hgl3 := HP.out.lt) | (refine Kd.R_append_step (Kd.int .i64) w0.heap.size rfl (.tmp 70) (.tmp 73) 43 3 (.int .i64 0) 8 rfl Try.underlying43 infoI rfl (by decide) (by omega) (.slice a3 D.length c3) D (t.a : Int) [.int .i64 (t.a : Int)] (fun k => own3 k = 4) (fun _ => False) rfl rfl ?aP ?aK ?aF ?aO (Below.refl _ _) ?aS ?aL ?_; (case aP => exact rfl); (case aK => exact (fun _ hk => hk.elim)); (case aF => exact HF.out); (case aO => exact HR.out.r3); (case aS => exact HB.out.size); (case aL => omega); intro v3 w3 ho hb hg hat; generalize hq : D ++ [(t.a : Int)] = D2 at ho; have HQ3 := Aside0.mk hq; have nHR : Aside0 (Rows6 w0 w3 g L S wS own3 u0 (.slice a1 B.length c1) (.slice a2 C.length c2) v3 (.slice a4 E.length c4) (.slice a5 F.length c5) A2 B C D2 E F) := ⟨by subst hq; exact HR.out.app3 ho hg⟩; have nHP : Aside0 (IsP w0 w3 g s L c i3 [u0, (.slice a1 B.length c1), (.slice a2 C.length c2), (.slice a3 D.length c3), (.slice a4 E.length c4), (.slice a5 F.length c5)]) := ⟨HP.out.app3 HR.out hg⟩; have nHB := Aside0.mk (below_weaken HB.out (Nat.le_refl _) hb); have nHZ : Aside0 (w3.heap[b]? = some (.cells #[.int .i64 (t.k : Int), .string t.t, .int .i64 (t.a : Int), .int .i64 (t.e : Int)] 71 (0, 0))) := ⟨blk_grown HZ.out hg (Kd.R_ne HR.out.r3 HZ.out (by decide))⟩; clear ho hb hg hat hq HF; clear HR HP HB HZ; have HR := nHR; have HP := nHP; have HB := nHB; have HZ := nHZ; clear nHR nHP nHB nHZ; obtain ⟨Aq, cq, rfl⟩ := Kd.R_slice HR.out.r3; obtain ⟨z0, z1, z2, z3, z4, z5, f0, f1, f2, f3, f4, f5⟩ := pcq HP.out.1; have hgl3 := HP.out.lt))
          all_goals
            have nHP : Aside0 (IsP w0 (w3.setCell ⟨g, 11, none⟩ (.slice Aq D2.length cq)) g s L c i3 [u0, (.slice a1 B.length c1), (.slice a2 C.length c2), (.slice Aq D2.length cq), (.slice a4 E.length c4), (.slice a5 F.length c5)]) := ⟨HP.out.put3 _⟩; have nHR : Aside0 (Rows6 w0 (w3.setCell ⟨g, 11, none⟩ (.slice Aq D2.length cq)) g L S wS own3 u0 (.slice a1 B.length c1) (.slice a2 C.length c2) (.slice Aq D2.length cq) (.slice a4 E.length c4) (.slice a5 F.length c5) A2 B C D2 E F) := ⟨HR.out.setg 11 _⟩; have nHB : Aside0 (Below w0.heap.size w0 (w3.setCell ⟨g, 11, none⟩ (.slice Aq D2.length cq))) := ⟨HB.out.setCell (p := ⟨g, 11, none⟩) HGE.out _⟩; have nHZ : Aside0 ((w3.setCell ⟨g, 11, none⟩ (.slice Aq D2.length cq)).heap[b]? = some (.cells #[.int .i64 (t.k : Int), .string t.t, .int .i64 (t.a : Int), .int .i64 (t.e : Int)] 71 (0, 0))) := ⟨blk_far (p := ⟨g, 11, none⟩) HZ.out HBG.out _⟩; clear HP HR HB HZ; have HP := nHP; have HR := nHR; have HB := nHB; have HZ := nHZ; clear nHP nHR nHB nHZ
            go_step
            go_step
            have hgl6 := HP.out.lt
            have hbl6 := blk_lt HZ.out
            cases hs2 : takeP c i3 [11] with
            | error a =>
              rw [hs2] at hr
              simp only at hr
              have HQR := Aside0.mk hr
              have HT := Aside0.mk hs2
              clear hr hs2
              go_wp2_with (first | (go_at_call 30; (with_reducible refine (take_err (w0 := w0) (s := s) (L := L) (q := [u0, .slice a1 B.length c1, .slice a2 C.length c2, .slice Aq D2.length cq, .slice a4 E.length c4, .slice a5 F.length c5]) (h := HT.out) ?h1 ?h2 ?h3 ?h4 ?h5 ?h6).mono ?_); (case h1 => repeat (first | exact HP.out | apply IsP.alloc | apply IsP.drewN | apply IsP.drew | apply IsP.step1)); (case h2 => exact HI3.out); (case h3 => repeat (first | exact HB.out | apply below_alloc | apply pw_below_drewN | apply below_drew1 | refine below_set ?_ HGE.out)); (case h4 => repeat (first | exact Wants.of_new (by simp) rfl rfl | apply Wants.drewN | apply Wants.drew)); (case h5 => decide); (case h6 => decide); rintro e w2 ⟨rfl, hk, hb⟩; have HSE0 : Aside0 (Rows6 w0 w2 g L S wS own3 u0 (.slice a1 B.length c1) (.slice a2 C.length c2) (.slice Aq D2.length cq) (.slice a4 E.length c4) (.slice a5 F.length c5) A2 B C D2 E F) := ⟨Rows6.keep (by repeat (first | exact HR.out | apply Rows6.alloc | apply Rows6.drewN | apply Rows6.drew)) hk⟩; have HSE := Aside0.mk (fun k hk => (HSE0.out.s0 k hk).2.2.2); have HBE := Aside0.mk hb; clear hk hb HSE0))
              exact ⟨rfl, SEnd.of_err HBE.out HSE.out HQR.out.symm⟩
            | ok r4 =>
              obtain ⟨td, i9⟩ := r4
              rw [hs2] at hr
              simp only at hr
              have HQR := Aside0.mk hr
              have HT := Aside0.mk hs2
              clear hr hs2
              go_wp2_with (first | (go_at_call 30; (with_reducible refine (take_ok (w0 := w0) (s := s) (L := L) (q := [u0, .slice a1 B.length c1, .slice a2 C.length c2, .slice Aq D2.length cq, .slice a4 E.length c4, .slice a5 F.length c5]) (h := HT.out) ?h1 ?h2 ?h3 ?h4 ?h5 ?h6).mono ?_); (case h1 => repeat (first | exact HP.out | apply IsP.alloc | apply IsP.drewN | apply IsP.drew | apply IsP.step1)); (case h2 => exact HI3.out); (case h3 => repeat (first | exact HB.out | apply below_alloc | apply pw_below_drewN | apply below_drew1 | refine below_set ?_ HGE.out)); (case h4 => repeat (first | exact Wants.of_new (by simp) rfl rfl | apply Wants.drewN | apply Wants.drew)); (case h5 => decide); (case h6 => decide); rintro e w9 ⟨rfl, hp, hk, hb⟩; have nHZ : Aside0 (w9.heap[b]? = some (.cells #[.int .i64 (t.k : Int), .string t.t, .int .i64 (t.a : Int), .int .i64 (t.e : Int)] 71 (0, 0))) := ⟨KeepBut.blk (o := .cells #[.int .i64 (t.k : Int), .string t.t, .int .i64 (t.a : Int), .int .i64 (t.e : Int)] 71 (0, 0)) hk (by repeat (first | exact HZ.out | refine blk_alloc ?_ _ | refine blk_drewN ?_ _ | refine blk_drew ?_)) HBG.out (by simp)⟩; have nHR : Aside0 (Rows6 w0 w9 g L S wS own3 u0 (.slice a1 B.length c1) (.slice a2 C.length c2) (.slice Aq D2.length cq) (.slice a4 E.length c4) (.slice a5 F.length c5) A2 B C D2 E F) := ⟨Rows6.keep (by repeat (first | exact HR.out | apply Rows6.alloc | apply Rows6.drewN | apply Rows6.drew)) hk⟩; have nHB := Aside0.mk hb; have nHP := Aside0.mk hp; clear hk hb hp; clear HZ HR HB HP; have HZ := nHZ; have HR := nHR; have HB := nHB; have HP := nHP; clear nHZ nHR nHB nHP))
              go_end0
              exact SEnd.of_inp HQ0.out HQ3.out HB.out HP.out HR.out HQR.out.symm
    · rw [if_neg h5] at hr
      have b5 : ((t.k : Int) == 5) = false := beq_eq_false_iff_ne.2 (by omega)
      by_cases h6 : t.k = 6
      · have b6 : ((t.k : Int) == 6) = true := beq_iff_eq.2 (by omega)
        rw [if_pos h6] at hr
        clear h5 h6
        go_upto_region 9 with (fail)
        clear y0 y1 y3
        cases ha : arityQ c i1 with
        | error a =>
          rw [ha] at hr
          simp only at hr
          have HQR := Aside0.mk hr
          have HT := Aside0.mk ha
          clear hr ha
          go_wp2_with (first | (go_at_call 63; (with_reducible refine (arity_err (w0 := w0) (s := s) (L := L) (q := [.slice a0 A.length c0, .slice a1 B.length c1, .slice a2 C.length c2, .slice a3 D.length c3, .slice a4 E.length c4, .slice a5 F.length c5]) (h := HT.out) ?h1 ?h2 ?h3 HTT.out).mono ?_); (case h1 => repeat (first | exact HP.out | apply IsP.alloc | apply IsP.drewN | apply IsP.drew | apply IsP.step1)); (case h2 => exact HI1.out); (case h3 => repeat (first | exact HB.out | apply below_alloc | apply pw_below_drewN | apply below_drew1 | refine below_set ?_ HGE.out)); rintro e w2 ⟨rfl, hk, hb⟩; have HSE0 : Aside0 (Rows6 w0 w2 g L S wS own (.slice a0 A.length c0) (.slice a1 B.length c1) (.slice a2 C.length c2) (.slice a3 D.length c3) (.slice a4 E.length c4) (.slice a5 F.length c5) A B C D E F) := ⟨Rows6.keep (by repeat (first | exact HR.out | apply Rows6.alloc | apply Rows6.drewN | apply Rows6.drew)) hk⟩; have HSE := Aside0.mk (fun k hk => (HSE0.out.s0 k hk).2.2.2); have HBE := Aside0.mk hb; clear hk hb HSE0))
          exact ⟨rfl, SEnd.of_err HBE.out HSE.out HQR.out.symm⟩
        | ok r2 =>
          obtain ⟨pn, i2⟩ := r2
          rw [ha] at hr
          simp only at hr
          have HI2 := Aside0.mk (arityQ_le ha).2
          have HT := Aside0.mk ha
          clear ha
          go_upto_region 10 with (first | (go_at_call 63; (with_reducible refine (arity_ok (w0 := w0) (s := s) (L := L) (q := [.slice a0 A.length c0, .slice a1 B.length c1, .slice a2 C.length c2, .slice a3 D.length c3, .slice a4 E.length c4, .slice a5 F.length c5]) (h := HT.out) ?h1 ?h2 ?h3 HTT.out).mono ?_); (case h1 => repeat (first | exact HP.out | apply IsP.alloc | apply IsP.drewN | apply IsP.drew | apply IsP.step1)); (case h2 => exact HI1.out); (case h3 => repeat (first | exact HB.out | apply below_alloc | apply pw_below_drewN | apply below_drew1 | refine below_set ?_ HGE.out)); rintro e w2 ⟨rfl, hp, hk, hb⟩; have nHZ : Aside0 (w2.heap[b]? = some (.cells #[.int .i64 (t.k : Int), .string t.t, .int .i64 (t.a : Int), .int .i64 (t.e : Int)] 71 (0, 0))) := ⟨KeepBut.blk (o := .cells #[.int .i64 (t.k : Int), .string t.t, .int .i64 (t.a : Int), .int .i64 (t.e : Int)] 71 (0, 0)) hk (by repeat (first | exact HZ.out | refine blk_alloc ?_ _ | refine blk_drewN ?_ _ | refine blk_drew ?_)) HBG.out (by simp)⟩; have nHR : Aside0 (Rows6 w0 w2 g L S wS own (.slice a0 A.length c0) (.slice a1 B.length c1) (.slice a2 C.length c2) (.slice a3 D.length c3) (.slice a4 E.length c4) (.slice a5 F.length c5) A B C D E F) := ⟨Rows6.keep (by repeat (first | exact HR.out | apply Rows6.alloc | apply Rows6.drewN | apply Rows6.drew)) hk⟩; have nHB := Aside0.mk hb; have nHP := Aside0.mk hp; clear hk hb hp; clear HZ HR HB HP; have HZ := nHZ; have HR := nHR; have HB := nHB; have HP := nHP; clear nHZ nHR nHB nHP; obtain ⟨y0, y1, y2, y3⟩ := cells4 HZ.out; clear y0 y1 y3; obtain ⟨z0, z1, z2, z3, z4, z5, f0, f1, f2, f3, f4, f5⟩ := pcq HP.out.1; clear z0 z2 z3 z4 z5 f0 f2 f3 f4 f5; have hgl3 := HP.out.lt; have hbl3 := blk_lt HZ.out))
          clear HT
          obtain ⟨own1, hR1, hF1, _⟩ := HR.out.renew hgl3 HP.out.own_lt 2
          have HF := Aside0.mk (show ∀ k, w2.heap.size ≤ k → own1 k = 2 from hF1)
          clear HR hF1
          have HR := Aside0.mk hR1
          clear hR1
          go_upto_region 11 with (first | (at_builtin; refine Kd.R_append k88 w0.heap.size rfl (.tmp 90) (.tmp 94) 39 88 (.agg #[.string ⟨#[]⟩, .int .i64 0]) 24 rfl Try.underlying39 info88 rfl (by decide) (by omega) (.slice a1 B.length c1) B (⟨pn.1, (pn.2 : Int)⟩ : S88) [.string pn.1, .int .i64 (pn.2 : Int)] (fun k => own1 k = 2) (fun _ => False) rfl rfl ?aP ?aK ?aF ?aO (Below.refl _ _) ?aS ?aL ?_; (case aP => exact k88_mkM _ _ _ _); (case aK => exact (fun _ hk => hk.elim)); (case aF => exact HF.out); (case aO => exact HR.out.r1); (case aS => exact HB.out.size); (case aL => omega); intro v3 w3 ho hb hg hat; generalize hq : B ++ [(⟨pn.1, (pn.2 : Int)⟩ : S88)] = B2 at ho; have HQ1 := Aside0.mk hq; have nHR : Aside0 (Rows6 w0 w3 g L S wS own1 (.slice a0 A.length c0) v3 (.slice a2 C.length c2) (.slice a3 D.length c3) (.slice a4 E.length c4) (.slice a5 F.length c5) A B2 C D E F) := ⟨by subst hq; exact HR.out.app1 ho hg⟩; have nHP : Aside0 (IsP w0 w3 g s L c i2 [(.slice a0 A.length c0), (.slice a1 B.length c1), (.slice a2 C.length c2), (.slice a3 D.length c3), (.slice a4 E.length c4), (.slice a5 F.length c5)]) := ⟨HP.out.app1 HR.out hg⟩; have nHB := Aside0.mk (below_weaken HB.out (Nat.le_refl _) hb); have nHZ : Aside0 (w3.heap[b]? = some (.cells #[.int .i64 (t.k : Int), .string t.t, .int .i64 (t.a : Int), .int .i64 (t.e : Int)] 71 (0, 0))) := ⟨blk_grown HZ.out hg (Kd.R_ne HR.out.r1 HZ.out (by decide))⟩; clear ho hb hg hat hq HF; clear HR HP HB HZ; have HR := nHR; have HP := nHP; have HB := nHB; have HZ := nHZ; clear nHR nHP nHB nHZ; obtain ⟨Aq, cq, rfl⟩ := Kd.R_slice HR.out.r1; obtain ⟨z0, z1, z2, z3, z4, z5, f0, f1, f2, f3, f4, f5⟩ := pcq HP.out.1; have hgl3 := HP.out.lt))
          have nHP : Aside0 (IsP w0 (w3.setCell ⟨g, 9, none⟩ (.slice Aq B2.length cq)) g s L c i2 [(.slice a0 A.length c0), (.slice Aq B2.length cq), (.slice a2 C.length c2), (.slice a3 D.length c3), (.slice a4 E.length c4), (.slice a5 F.length c5)]) := ⟨HP.out.put1 _⟩; have nHR : Aside0 (Rows6 w0 (w3.setCell ⟨g, 9, none⟩ (.slice Aq B2.length cq)) g L S wS own1 (.slice a0 A.length c0) (.slice Aq B2.length cq) (.slice a2 C.length c2) (.slice a3 D.length c3) (.slice a4 E.length c4) (.slice a5 F.length c5) A B2 C D E F) := ⟨HR.out.setg 9 _⟩; have nHB : Aside0 (Below w0.heap.size w0 (w3.setCell ⟨g, 9, none⟩ (.slice Aq B2.length cq))) := ⟨HB.out.setCell (p := ⟨g, 9, none⟩) HGE.out _⟩; have nHZ : Aside0 ((w3.setCell ⟨g, 9, none⟩ (.slice Aq B2.length cq)).heap[b]? = some (.cells #[.int .i64 (t.k : Int), .string t.t, .int .i64 (t.a : Int), .int .i64 (t.e : Int)] 71 (0, 0))) := ⟨blk_far (p := ⟨g, 9, none⟩) HZ.out HBG.out _⟩; clear HP HR HB HZ; have HP := nHP; have HR := nHR; have HB := nHB; have HZ := nHZ; clear nHP nHR nHB nHZ
          clear z0 z1 z2 z3 z4 z5 f0 f1 f2 f3 f4 f5 y2
          generalize w3.setCell ⟨g, 9, none⟩ (.slice Aq B2.length cq) = wc at *
          generalize Value.slice Aq B2.length cq = u1 at *
          obtain ⟨y0, y1, y2, y3⟩ := cells4 HZ.out
          clear y0 y1 y3
          obtain ⟨z0, z1, z2, z3, z4, z5, f0, f1, f2, f3, f4, f5⟩ := pcq HP.out.1
          clear z0 z1 z2 z3 z5 f0 f1 f2 f3 f5
          have hgl5 := HP.out.lt
          have hbl5 := blk_lt HZ.out
          obtain ⟨own3, hR3, hF3, _⟩ := HR.out.renew hgl5 HP.out.own_lt 5
          have HF := Aside0.mk (show ∀ k, wc.heap.size ≤ k → own3 k = 5 from hF3)
          clear HR hF3
          have HR := Aside0.mk hR3
          clear hR3
          go_upto_region 11 with (fail)
          go_region_law (first | (refine Kd.R_append_step (W := wc.drew) (Kd.int .i64) w0.heap.size rfl (.tmp 104) (.tmp 107) 43 3 (.int .i64 0) 8 rfl Try.underlying43 infoI rfl (by decide) (by omega) (.slice a4 E.length c4) E (t.a : Int) [.int .i64 (t.a : Int)] (fun k => own3 k = 5) (fun _ => False) rfl rfl ?aP ?aK ?aF ?aO (Below.refl _ _) ?aS ?aL ?_; (case aP => exact rfl); (case aK => exact (fun _ hk => hk.elim)); (case aF => exact HF.out); (case aO => exact HR.out.drew.r4); (case aS => exact HB.out.size); (case aL => omega); intro v3 w3 ho hb hg hat; generalize hq : E ++ [(t.a : Int)] = E2 at ho; have HQ4 := Aside0.mk hq; have nHR : Aside0 (Rows6 w0 w3 g L S wS own3 (.slice a0 A.length c0) u1 (.slice a2 C.length c2) (.slice a3 D.length c3) v3 (.slice a5 F.length c5) A B2 C D E2 F) := ⟨by subst hq; exact HR.out.drew.app4 ho hg⟩; have nHP : Aside0 (IsP w0 w3 g s L c i2 [(.slice a0 A.length c0), u1, (.slice a2 C.length c2), (.slice a3 D.length c3), (.slice a4 E.length c4), (.slice a5 F.length c5)]) := ⟨HP.out.drew.app4 HR.out.drew hg⟩; have nHB := Aside0.mk (below_weaken (below_drew1 HB.out) (Nat.le_refl _) hb); have nHZ : Aside0 (w3.heap[b]? = some (.cells #[.int .i64 (t.k : Int), .string t.t, .int .i64 (t.a : Int), .int .i64 (t.e : Int)] 71 (0, 0))) := ⟨blk_grown (blk_drew HZ.out) hg (Kd.R_ne HR.out.drew.r4 (blk_drew HZ.out) (by decide))⟩; clear ho hb hg hat hq HF; clear HR HP HB HZ; have HR := nHR; have HP := nHP; have HB := nHB; have HZ := nHZ; clear nHR nHP nHB nHZ; obtain ⟨Aq, cq, rfl⟩ := Kd.R_slice HR.out.r4; obtain ⟨z0, z1, z2, z3, z4, z5, f0, f1, f2, f3, f4, f5⟩ := pcq HP.out.1; have hgl3 := HP.out.lt) | (refine Kd.R_append_step (Kd.int .i64) w0.heap.size rfl (.tmp 104) (.tmp 107) 43 3 (.int .i64 0) 8 rfl Try.underlying43 infoI rfl (by decide) (by omega) (.slice a4 E.length c4) E (t.a : Int) [.int .i64 (t.a : Int)] (fun k => own3 k = 5) (fun _ => False) rfl rfl ?aP ?aK ?aF ?aO (Below.refl _ _) ?aS ?aL ?_; (case aP => exact rfl); (case aK => exact (fun _ hk => hk.elim)); (case aF => exact HF.out); (case aO => exact HR.out.r4); (case aS => exact HB.out.size); (case aL => omega); intro v3 w3 ho hb hg hat; generalize hq : E ++ [(t.a : Int)] = E2 at ho; have HQ4 := Aside0.mk hq; have nHR : Aside0 (Rows6 w0 w3 g L S wS own3 (.slice a0 A.length c0) u1 (.slice a2 C.length c2) (.slice a3 D.length c3) v3 (.slice a5 F.length c5) A B2 C D E2 F) := ⟨by subst hq; exact HR.out.app4 ho hg⟩; have nHP : Aside0 (IsP w0 w3 g s L c i2 [(.slice a0 A.length c0), u1, (.slice a2 C.length c2), (.slice a3 D.length c3), (.slice a4 E.length c4), (.slice a5 F.length c5)]) := ⟨HP.out.app4 HR.out hg⟩; have nHB := Aside0.mk (below_weaken HB.out (Nat.le_refl _) hb); have nHZ : Aside0 (w3.heap[b]? = some (.cells #[.int .i64 (t.k : Int), .string t.t, .int .i64 (t.a : Int), .int .i64 (t.e : Int)] 71 (0, 0))) := ⟨blk_grown HZ.out hg (Kd.R_ne HR.out.r4 HZ.out (by decide))⟩; clear ho hb hg hat hq HF; clear HR HP HB HZ; have HR := nHR; have HP := nHP; have HB := nHB; have HZ := nHZ; clear nHR nHP nHB nHZ; obtain ⟨Aq, cq, rfl⟩ := Kd.R_slice HR.out.r4; obtain ⟨z0, z1, z2, z3, z4, z5, f0, f1, f2, f3, f4, f5⟩ := pcq HP.out.1; have hgl3 := HP.out.lt))
          all_goals
            have nHP : Aside0 (IsP w0 (w3.setCell ⟨g, 12, none⟩ (.slice Aq E2.length cq)) g s L c i2 [(.slice a0 A.length c0), u1, (.slice a2 C.length c2), (.slice a3 D.length c3), (.slice Aq E2.length cq), (.slice a5 F.length c5)]) := ⟨HP.out.put4 _⟩; have nHR : Aside0 (Rows6 w0 (w3.setCell ⟨g, 12, none⟩ (.slice Aq E2.length cq)) g L S wS own3 (.slice a0 A.length c0) u1 (.slice a2 C.length c2) (.slice a3 D.length c3) (.slice Aq E2.length cq) (.slice a5 F.length c5) A B2 C D E2 F) := ⟨HR.out.setg 12 _⟩; have nHB : Aside0 (Below w0.heap.size w0 (w3.setCell ⟨g, 12, none⟩ (.slice Aq E2.length cq))) := ⟨HB.out.setCell (p := ⟨g, 12, none⟩) HGE.out _⟩; have nHZ : Aside0 ((w3.setCell ⟨g, 12, none⟩ (.slice Aq E2.length cq)).heap[b]? = some (.cells #[.int .i64 (t.k : Int), .string t.t, .int .i64 (t.a : Int), .int .i64 (t.e : Int)] 71 (0, 0))) := ⟨blk_far (p := ⟨g, 12, none⟩) HZ.out HBG.out _⟩; clear HP HR HB HZ; have HP := nHP; have HR := nHR; have HB := nHB; have HZ := nHZ; clear nHP nHR nHB nHZ
            go_step
            go_step
            have hgl6 := HP.out.lt
            have hbl6 := blk_lt HZ.out
            cases hs2 : takeP c i2 [11] with
            | error a =>
              rw [hs2] at hr
              simp only at hr
              have HQR := Aside0.mk hr
              have HT := Aside0.mk hs2
              clear hr hs2
              go_wp2_with (first | (go_at_call 30; (with_reducible refine (take_err (w0 := w0) (s := s) (L := L) (q := [.slice a0 A.length c0, u1, .slice a2 C.length c2, .slice a3 D.length c3, .slice Aq E2.length cq, .slice a5 F.length c5]) (h := HT.out) ?h1 ?h2 ?h3 ?h4 ?h5 ?h6).mono ?_); (case h1 => repeat (first | exact HP.out | apply IsP.alloc | apply IsP.drewN | apply IsP.drew | apply IsP.step1)); (case h2 => exact HI2.out); (case h3 => repeat (first | exact HB.out | apply below_alloc | apply pw_below_drewN | apply below_drew1 | refine below_set ?_ HGE.out)); (case h4 => repeat (first | exact Wants.of_new (by simp) rfl rfl | apply Wants.drewN | apply Wants.drew)); (case h5 => decide); (case h6 => decide); rintro e w2 ⟨rfl, hk, hb⟩; have HSE0 : Aside0 (Rows6 w0 w2 g L S wS own3 (.slice a0 A.length c0) u1 (.slice a2 C.length c2) (.slice a3 D.length c3) (.slice Aq E2.length cq) (.slice a5 F.length c5) A B2 C D E2 F) := ⟨Rows6.keep (by repeat (first | exact HR.out | apply Rows6.alloc | apply Rows6.drewN | apply Rows6.drew)) hk⟩; have HSE := Aside0.mk (fun k hk => (HSE0.out.s0 k hk).2.2.2); have HBE := Aside0.mk hb; clear hk hb HSE0))
              exact ⟨rfl, SEnd.of_err HBE.out HSE.out HQR.out.symm⟩
            | ok r4 =>
              obtain ⟨td, i9⟩ := r4
              rw [hs2] at hr
              simp only at hr
              have HQR := Aside0.mk hr
              have HT := Aside0.mk hs2
              clear hr hs2
              go_wp2_with (first | (go_at_call 30; (with_reducible refine (take_ok (w0 := w0) (s := s) (L := L) (q := [.slice a0 A.length c0, u1, .slice a2 C.length c2, .slice a3 D.length c3, .slice Aq E2.length cq, .slice a5 F.length c5]) (h := HT.out) ?h1 ?h2 ?h3 ?h4 ?h5 ?h6).mono ?_); (case h1 => repeat (first | exact HP.out | apply IsP.alloc | apply IsP.drewN | apply IsP.drew | apply IsP.step1)); (case h2 => exact HI2.out); (case h3 => repeat (first | exact HB.out | apply below_alloc | apply pw_below_drewN | apply below_drew1 | refine below_set ?_ HGE.out)); (case h4 => repeat (first | exact Wants.of_new (by simp) rfl rfl | apply Wants.drewN | apply Wants.drew)); (case h5 => decide); (case h6 => decide); rintro e w9 ⟨rfl, hp, hk, hb⟩; have nHZ : Aside0 (w9.heap[b]? = some (.cells #[.int .i64 (t.k : Int), .string t.t, .int .i64 (t.a : Int), .int .i64 (t.e : Int)] 71 (0, 0))) := ⟨KeepBut.blk (o := .cells #[.int .i64 (t.k : Int), .string t.t, .int .i64 (t.a : Int), .int .i64 (t.e : Int)] 71 (0, 0)) hk (by repeat (first | exact HZ.out | refine blk_alloc ?_ _ | refine blk_drewN ?_ _ | refine blk_drew ?_)) HBG.out (by simp)⟩; have nHR : Aside0 (Rows6 w0 w9 g L S wS own3 (.slice a0 A.length c0) u1 (.slice a2 C.length c2) (.slice a3 D.length c3) (.slice Aq E2.length cq) (.slice a5 F.length c5) A B2 C D E2 F) := ⟨Rows6.keep (by repeat (first | exact HR.out | apply Rows6.alloc | apply Rows6.drewN | apply Rows6.drew)) hk⟩; have nHB := Aside0.mk hb; have nHP := Aside0.mk hp; clear hk hb hp; clear HZ HR HB HP; have HZ := nHZ; have HR := nHR; have HB := nHB; have HP := nHP; clear nHZ nHR nHB nHP))
              go_end0
              exact SEnd.of_out HQ1.out HQ4.out HB.out HP.out HR.out HQR.out.symm
      · have b6 : ((t.k : Int) == 6) = false := beq_eq_false_iff_ne.2 (by omega)
        rw [if_neg h6] at hr
        clear h5 h6
        go_upto_region 2 with (fail)
        clear y0 y3
        obtain ⟨z0, z1, z2, z3, z4, z5, f0, f1, f2, f3, f4, f5⟩ := pcq HP.out.1
        clear z0 z1 z3 z4 z5 f0 f1 f3 f4 f5
        cases ha : ruleP c i1 t.t with
        | error a =>
          rw [ha] at hr
          simp only at hr
          have HQR := Aside0.mk hr
          have HT := Aside0.mk ha
          clear hr ha
          go_region_with (first | (go_at_call 29; (with_reducible refine (rule_err (w0 := w0) (s := s) (L := L) (q := [.slice a0 A.length c0, .slice a1 B.length c1, .slice a2 C.length c2, .slice a3 D.length c3, .slice a4 E.length c4, .slice a5 F.length c5]) (h := HT.out) ?h1 ?h2 ?h3).mono ?_); (case h1 => repeat (first | exact HP.out | apply IsP.alloc | apply IsP.drewN | apply IsP.drew | apply IsP.step1)); (case h2 => exact HI1.out); (case h3 => repeat (first | exact HB.out | apply below_alloc | apply pw_below_drewN | apply below_drew1 | refine below_set ?_ HGE.out)); rintro e w2 ⟨rfl, hk, hb⟩; have HSE0 : Aside0 (Rows6 w0 w2 g L S wS own (.slice a0 A.length c0) (.slice a1 B.length c1) (.slice a2 C.length c2) (.slice a3 D.length c3) (.slice a4 E.length c4) (.slice a5 F.length c5) A B C D E F) := ⟨Rows6.keep (by repeat (first | exact HR.out | apply Rows6.alloc | apply Rows6.drewN | apply Rows6.drew)) hk⟩; have HSE := Aside0.mk (fun k hk => (HSE0.out.s0 k hk).2.2.2); have HBE := Aside0.mk hb; clear hk hb HSE0; dsimp only; refine by_none (w := w2) (⟨rfl, SEnd.of_err HBE.out HSE.out HQR.out.symm⟩) ?_))
          all_goals trivial
        | ok r2 =>
          obtain ⟨rl, i2⟩ := r2
          rw [ha] at hr
          simp only at hr
          have HQR := Aside0.mk hr
          have HT := Aside0.mk ha
          clear ha hr
          obtain ⟨own1, hR1, hF1, _⟩ := HR.out.renew hgl1 HP.out.own_lt 3
          have HF0 := Aside0.mk (show ∀ k, W.heap.size ≤ k → own1 k = 3 from hF1)
          clear HR hF1
          have HR := Aside0.mk hR1
          clear hR1
          have HAK := Aside0.mk (show ∀ k, W.heap.size ≤ k → own1 k = 3 ∧ some k ≠ (Value.slice a2 C.length c2).ownBlock from fun k hk => ⟨HF0.out k hk, fun e => by
            obtain ⟨inner, ho⟩ := Kd.R_own HR.out.r2
            have := Go.Proofs.YtdodajpiidkglaaW.PrintWords.own_lt ho k e.symm
            omega⟩)
          have HWB := Aside0.mk HB.out.size
          go_cut [23] (fun v61 w4 => ∃ own2 u2 C2, Aside0 (C ++ [rl] = C2) ∧ Aside0 (IsP w0 w4 g s L c i2 [(.slice a0 A.length c0), (.slice a1 B.length c1), u2, (.slice a3 D.length c3), (.slice a4 E.length c4), (.slice a5 F.length c5)]) ∧ Aside0 (Rows6 w0 w4 g L S wS own2 (.slice a0 A.length c0) (.slice a1 B.length c1) u2 (.slice a3 D.length c3) (.slice a4 E.length c4) (.slice a5 F.length c5) A B C2 D E F) ∧ Aside0 (w4.heap[b]? = some (.cells #[.int .i64 (t.k : Int), .string t.t, .int .i64 (t.a : Int), .int .i64 (t.e : Int)] 71 (0, 0))) ∧ Aside0 (Below w0.heap.size w0 w4))
          case first =>
            go_region_law (first | (refine Kd.R_append_step k29 w0.heap.size rfl (.tmp 17) (.tmp 22) 40 29 (.agg #[.string ⟨#[]⟩, .slice none 0 0, .slice none 0 0]) 64 rfl Try.underlying40 info29 rfl (by decide) (by omega) (.slice a2 C.length c2) C rl [.string rl.f0.f0, .slice B1 rl.f0.f1.length d1, .slice B2 rl.f1.length d2] (fun k => own1 k = 3) (fun k => W.heap.size ≤ k) rfl rfl ?aP ?aK ?aF ?aO (Below.refl _ _) ?aS ?aL ?_; (case aP => exact k29_mkM _ _ _ _ HX1.out HX2.out); (case aK => exact HAK.out); (case aF => exact HF.out); (case aO => exact HR.out.r2); (case aS => exact HB.out.size); (case aL => omega); intro v3 w3 ho hb hg hat; generalize hq : C ++ [rl] = C2 at ho; have HQ2 := Aside0.mk hq; have nHR : Aside0 (Rows6 w0 w3 g L S wS own1 (.slice a0 A.length c0) (.slice a1 B.length c1) v3 (.slice a3 D.length c3) (.slice a4 E.length c4) (.slice a5 F.length c5) A B C2 D E F) := ⟨by subst hq; exact HR.out.app2 ho hg⟩; have nHP : Aside0 (IsP w0 w3 g s L c i2 [(.slice a0 A.length c0), (.slice a1 B.length c1), (.slice a2 C.length c2), (.slice a3 D.length c3), (.slice a4 E.length c4), (.slice a5 F.length c5)]) := ⟨HP.out.app2 HR.out hg⟩; have nHB := Aside0.mk (below_weaken HB.out (Nat.le_refl _) hb); have nHZ : Aside0 (w3.heap[b]? = some (.cells #[.int .i64 (t.k : Int), .string t.t, .int .i64 (t.a : Int), .int .i64 (t.e : Int)] 71 (0, 0))) := ⟨blk_grown HZ.out hg (Kd.R_ne HR.out.r2 HZ.out (by decide))⟩; clear ho hb hg hat hq HF; clear HR HP HB HZ; have HR := nHR; have HP := nHP; have HB := nHB; have HZ := nHZ; clear nHR nHP nHB nHZ; obtain ⟨Aq, cq, rfl⟩ := Kd.R_slice HR.out.r2; obtain ⟨z0, z1, z2, z3, z4, z5, f0, f1, f2, f3, f4, f5⟩ := pcq HP.out.1; have hgl3 := HP.out.lt) | (go_simp; go_wp2_with (first | (go_at_call 29; (with_reducible refine (rule_ok (w0 := w0) (s := s) (L := L) (q := [.slice a0 A.length c0, .slice a1 B.length c1, .slice a2 C.length c2, .slice a3 D.length c3, .slice a4 E.length c4, .slice a5 F.length c5]) (h := HT.out) ?h1 ?h2 ?h3).mono ?_); (case h1 => repeat (first | exact HP.out | apply IsP.alloc | apply IsP.drewN | apply IsP.drew | apply IsP.step1)); (case h2 => exact HI1.out); (case h3 => repeat (first | exact HB.out | apply below_alloc | apply pw_below_drewN | apply below_drew1 | refine below_set ?_ HGE.out)); rintro e w6 ⟨B1, d1, B2, d2, rfl, hx1, hx2, hp, hk, hb⟩; have nHZ : Aside0 (w6.heap[b]? = some (.cells #[.int .i64 (t.k : Int), .string t.t, .int .i64 (t.a : Int), .int .i64 (t.e : Int)] 71 (0, 0))) := ⟨KeepBut.blk (o := .cells #[.int .i64 (t.k : Int), .string t.t, .int .i64 (t.a : Int), .int .i64 (t.e : Int)] 71 (0, 0)) hk (by repeat (first | exact HZ.out | refine blk_alloc ?_ _ | refine blk_drewN ?_ _ | refine blk_drew ?_)) HBG.out (by simp)⟩; have nHR : Aside0 (Rows6 w0 w6 g L S wS own1 (.slice a0 A.length c0) (.slice a1 B.length c1) (.slice a2 C.length c2) (.slice a3 D.length c3) (.slice a4 E.length c4) (.slice a5 F.length c5) A B C D E F) := ⟨Rows6.keep (by repeat (first | exact HR.out | apply Rows6.alloc | apply Rows6.drewN | apply Rows6.drew)) hk⟩; have nHB := Aside0.mk hb; have nHP := Aside0.mk hp; have HX1 := Aside0.mk (Kd.R_lower (Kd.R_mono (ok' := fun k => W.heap.size ≤ k) (Kd.R_bound hx1) (fun k h => h.2.1)) HWB.out); have HX2 := Aside0.mk (Kd.R_lower (Kd.R_mono (ok' := fun k => W.heap.size ≤ k) (Kd.R_bound hx2) (fun k h => h.2.1)) HWB.out); clear hx1 hx2; have HF := Aside0.mk (show ∀ k, w6.heap.size ≤ k → own1 k = 3 from fun k hk2 => HF0.out k (Nat.le_trans (KeepBut.trans (w := W) (g := g) (row := none) (by repeat (first | exact KeepBut.refl _ _ _ | apply keep_drewN | apply keep_drew | apply keep_alloc)) hk (.inl rfl)).1 hk2)); clear HF0; clear hk hb hp; clear HZ HR HB HP; have HZ := nHZ; have HR := nHR; have HB := nHB; have HP := nHP; clear nHZ nHR nHB nHP; obtain ⟨z0, z1, z2, z3, z4, z5, f0, f1, f2, f3, f4, f5⟩ := pcq HP.out.1; clear z0 z1 z3 z4 z5 f0 f1 f3 f4 f5; have hgl4 := HP.out.lt))))
            all_goals (have nHP : Aside0 (IsP w0 (w3.setCell ⟨g, 10, none⟩ (.slice Aq C2.length cq)) g s L c i2 [(.slice a0 A.length c0), (.slice a1 B.length c1), (.slice Aq C2.length cq), (.slice a3 D.length c3), (.slice a4 E.length c4), (.slice a5 F.length c5)]) := ⟨HP.out.put2 _⟩; have nHR : Aside0 (Rows6 w0 (w3.setCell ⟨g, 10, none⟩ (.slice Aq C2.length cq)) g L S wS own1 (.slice a0 A.length c0) (.slice a1 B.length c1) (.slice Aq C2.length cq) (.slice a3 D.length c3) (.slice a4 E.length c4) (.slice a5 F.length c5) A B C2 D E F) := ⟨HR.out.setg 10 _⟩; have nHB : Aside0 (Below w0.heap.size w0 (w3.setCell ⟨g, 10, none⟩ (.slice Aq C2.length cq))) := ⟨HB.out.setCell (p := ⟨g, 10, none⟩) HGE.out _⟩; have nHZ : Aside0 ((w3.setCell ⟨g, 10, none⟩ (.slice Aq C2.length cq)).heap[b]? = some (.cells #[.int .i64 (t.k : Int), .string t.t, .int .i64 (t.a : Int), .int .i64 (t.e : Int)] 71 (0, 0))) := ⟨blk_far (p := ⟨g, 10, none⟩) HZ.out HBG.out _⟩; clear HP HR HB HZ; have HP := nHP; have HR := nHR; have HB := nHB; have HZ := nHZ; clear nHP nHR nHB nHZ; go_step; go_step; go_meet; exact ⟨_, _, _, HQ2, HP, HR, HZ, HB⟩)
          case rest =>
          obtain ⟨own2, u2, C2, HQ2, HP, HR, HZ, HB⟩ := hcut
          obtain ⟨y0, y1, y2, y3⟩ := cells4 HZ.out
          clear y0 y1 y3
          obtain ⟨z0, z1, z2, z3, z4, z5, f0, f1, f2, f3, f4, f5⟩ := pcq HP.out.1
          clear z0 z1 z2 z3 z4 f0 f1 f2 f3 f4
          have hgl5 := HP.out.lt
          have hbl5 := blk_lt HZ.out
          obtain ⟨own3, hR3, hF3, _⟩ := HR.out.renew hgl5 HP.out.own_lt 6
          have HF := Aside0.mk (show ∀ k, wc.heap.size ≤ k → own3 k = 6 from hF3)
          clear HR hF3
          have HR := Aside0.mk hR3
          clear hR3
          go_upto_region 3 with (fail)
          go_region_law (first | (refine Kd.R_append_step (W := wc.drew) (Kd.int .i64) w0.heap.size rfl (.tmp 32) (.tmp 35) 43 3 (.int .i64 0) 8 rfl Try.underlying43 infoI rfl (by decide) (by omega) (.slice a5 F.length c5) F (t.a : Int) [.int .i64 (t.a : Int)] (fun k => own3 k = 6) (fun _ => False) rfl rfl ?aP ?aK ?aF ?aO (Below.refl _ _) ?aS ?aL ?_; (case aP => exact rfl); (case aK => exact (fun _ hk => hk.elim)); (case aF => exact HF.out); (case aO => exact HR.out.drew.r5); (case aS => exact HB.out.size); (case aL => omega); intro v3 w3 ho hb hg hat; generalize hq : F ++ [(t.a : Int)] = F2 at ho; have HQ5 := Aside0.mk hq; have nHR : Aside0 (Rows6 w0 w3 g L S wS own3 (.slice a0 A.length c0) (.slice a1 B.length c1) u2 (.slice a3 D.length c3) (.slice a4 E.length c4) v3 A B C2 D E F2) := ⟨by subst hq; exact HR.out.drew.app5 ho hg⟩; have nHP : Aside0 (IsP w0 w3 g s L c i2 [(.slice a0 A.length c0), (.slice a1 B.length c1), u2, (.slice a3 D.length c3), (.slice a4 E.length c4), (.slice a5 F.length c5)]) := ⟨HP.out.drew.app5 HR.out.drew hg⟩; have nHB := Aside0.mk (below_weaken (below_drew1 HB.out) (Nat.le_refl _) hb); have nHZ : Aside0 (w3.heap[b]? = some (.cells #[.int .i64 (t.k : Int), .string t.t, .int .i64 (t.a : Int), .int .i64 (t.e : Int)] 71 (0, 0))) := ⟨blk_grown (blk_drew HZ.out) hg (Kd.R_ne HR.out.drew.r5 (blk_drew HZ.out) (by decide))⟩; clear ho hb hg hat hq HF; clear HR HP HB HZ; have HR := nHR; have HP := nHP; have HB := nHB; have HZ := nHZ; clear nHR nHP nHB nHZ; obtain ⟨Aq, cq, rfl⟩ := Kd.R_slice HR.out.r5; obtain ⟨z0, z1, z2, z3, z4, z5, f0, f1, f2, f3, f4, f5⟩ := pcq HP.out.1; have hgl3 := HP.out.lt) | (refine Kd.R_append_step (Kd.int .i64) w0.heap.size rfl (.tmp 32) (.tmp 35) 43 3 (.int .i64 0) 8 rfl Try.underlying43 infoI rfl (by decide) (by omega) (.slice a5 F.length c5) F (t.a : Int) [.int .i64 (t.a : Int)] (fun k => own3 k = 6) (fun _ => False) rfl rfl ?aP ?aK ?aF ?aO (Below.refl _ _) ?aS ?aL ?_; (case aP => exact rfl); (case aK => exact (fun _ hk => hk.elim)); (case aF => exact HF.out); (case aO => exact HR.out.r5); (case aS => exact HB.out.size); (case aL => omega); intro v3 w3 ho hb hg hat; generalize hq : F ++ [(t.a : Int)] = F2 at ho; have HQ5 := Aside0.mk hq; have nHR : Aside0 (Rows6 w0 w3 g L S wS own3 (.slice a0 A.length c0) (.slice a1 B.length c1) u2 (.slice a3 D.length c3) (.slice a4 E.length c4) v3 A B C2 D E F2) := ⟨by subst hq; exact HR.out.app5 ho hg⟩; have nHP : Aside0 (IsP w0 w3 g s L c i2 [(.slice a0 A.length c0), (.slice a1 B.length c1), u2, (.slice a3 D.length c3), (.slice a4 E.length c4), (.slice a5 F.length c5)]) := ⟨HP.out.app5 HR.out hg⟩; have nHB := Aside0.mk (below_weaken HB.out (Nat.le_refl _) hb); have nHZ : Aside0 (w3.heap[b]? = some (.cells #[.int .i64 (t.k : Int), .string t.t, .int .i64 (t.a : Int), .int .i64 (t.e : Int)] 71 (0, 0))) := ⟨blk_grown HZ.out hg (Kd.R_ne HR.out.r5 HZ.out (by decide))⟩; clear ho hb hg hat hq HF; clear HR HP HB HZ; have HR := nHR; have HP := nHP; have HB := nHB; have HZ := nHZ; clear nHR nHP nHB nHZ; obtain ⟨Aq, cq, rfl⟩ := Kd.R_slice HR.out.r5; obtain ⟨z0, z1, z2, z3, z4, z5, f0, f1, f2, f3, f4, f5⟩ := pcq HP.out.1; have hgl3 := HP.out.lt))
          all_goals
            have nHP : Aside0 (IsP w0 (w3.setCell ⟨g, 13, none⟩ (.slice Aq F2.length cq)) g s L c i2 [(.slice a0 A.length c0), (.slice a1 B.length c1), u2, (.slice a3 D.length c3), (.slice a4 E.length c4), (.slice Aq F2.length cq)]) := ⟨HP.out.put5 _⟩; have nHR : Aside0 (Rows6 w0 (w3.setCell ⟨g, 13, none⟩ (.slice Aq F2.length cq)) g L S wS own3 (.slice a0 A.length c0) (.slice a1 B.length c1) u2 (.slice a3 D.length c3) (.slice a4 E.length c4) (.slice Aq F2.length cq) A B C2 D E F2) := ⟨HR.out.setg 13 _⟩; have nHB : Aside0 (Below w0.heap.size w0 (w3.setCell ⟨g, 13, none⟩ (.slice Aq F2.length cq))) := ⟨HB.out.setCell (p := ⟨g, 13, none⟩) HGE.out _⟩; have nHZ : Aside0 ((w3.setCell ⟨g, 13, none⟩ (.slice Aq F2.length cq)).heap[b]? = some (.cells #[.int .i64 (t.k : Int), .string t.t, .int .i64 (t.a : Int), .int .i64 (t.e : Int)] 71 (0, 0))) := ⟨blk_far (p := ⟨g, 13, none⟩) HZ.out HBG.out _⟩; clear HP HR HB HZ; have HP := nHP; have HR := nHR; have HB := nHB; have HZ := nHZ; clear nHP nHR nHB nHZ
            go_step
            go_step
            go_wp2
            first | go_end0 | refine bodyPost_ret (results_none rfl _ _ _) rfl ?_
            exact SEnd.of_rul HQ2.out HQ5.out HB.out HP.out HR.out HQR.out.symm
end Go.Proofs.Ytdodajpiidkglaa.K
