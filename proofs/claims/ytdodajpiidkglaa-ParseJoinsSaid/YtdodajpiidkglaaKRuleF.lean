/- parse.Rule's closure: the walk. Conditions: the parser lies in memory as 'IsP' says, and the closure's three variables apart. -/
import Derived.Test.YtdodajpiidkglaaKStmt
import Derived.Test.YtdodajpiidkglaaKCaught
namespace Go.Proofs.Ytdodajpiidkglaa.K
open Go.RowKit Go.Proofs.YtdodajpiidkglaaW.PrintWords Go.Proofs.YtdodajpiidkglaaW.PrintLast Go.Proofs.YtdodajpiidkglaaW.PrintMore Go.Proofs.Ytdodajpiidkglaa.PAll
set_option linter.unusedVariables false
set_option linter.unusedSimpArgs false

/-- Nothing that was there has turned but blocks g and b. -/
def KeepR (w W : World) (g b : Nat) : Prop := w.heap.size ≤ W.heap.size ∧ ∀ k, k < w.heap.size → k ≠ g → k ≠ b → W.heap[k]? = w.heap[k]?
section
variable {w W W1 : World} {g b : Nat}
theorem KeepR.of (h : KeepBut w W g none) : KeepR w W g b := ⟨h.1, fun k hk h1 _ => h.2 k hk h1 (by simp)⟩
theorem KeepR.set (h : KeepR w W g b) (n : Nat) (u : Value) : KeepR w (W.setCell ⟨b, n, none⟩ u) g b :=
  ⟨by simpa [World.setCell] using h.1, fun k hk h1 h2 => (Below.heap_setCell W ⟨b, n, none⟩ u k h2).trans (h.2 k hk h1 h2)⟩
theorem KeepR.below (h : KeepR w W g b) (hb : Below W.heap.size W W1) : KeepR w W1 g b := ⟨Nat.le_trans h.1 hb.size, fun k hk h1 h2 => (hb.block k (Nat.lt_of_lt_of_le hk h.1)).trans (h.2 k hk h1 h2)⟩
theorem KeepR.drewN (h : KeepR w W g b) (m : Nat) : KeepR w (W.drewN m) g b := h
theorem KeepR.drew (h : KeepR w W g b) : KeepR w W.drew g b := h
end
/-- The end of the closure of parse.Rule. -/
def RFEnd (w0 w : World) (g Rb : Nat) (r : Except Nat (S29 × Nat)) (e : Ending) (w' : World) : Prop :=
  KeepR w w' g Rb ∧ Below w0.heap.size w0 w' ∧ match r with
  | .ok (x, j) => ∃ v1 v2, e = .returned (.tuple #[]) ∧ w'.heap[Rb]? = some (.cells #[.string x.f0.f0, v1, v2] 29 (0, 0)) ∧ Kd.R k61 61 w' w.heap.size (fun k => w.heap.size ≤ k) v1 x.f0.f1 ∧ Kd.R k63 63 w' w.heap.size (fun k => w.heap.size ≤ k) v2 x.f1
  | .error a => e = faultE a
theorem RFEnd.of_err {w0 w w' : World} {g Rb a : Nat} {r : Except Nat (S29 × Nat)} (h : KeepBut w w' g none) (hb : Below w0.heap.size w0 w') (hr : r = .error a) : RFEnd w0 w g Rb r (faultE a) w' := by
  subst hr; exact ⟨KeepR.of h, hb, rfl⟩
theorem RFEnd.of_err2 {w0 w w' : World} {g Rb a : Nat} {r : Except Nat (S29 × Nat)} (h : KeepR w w' g Rb) (hb : Below w0.heap.size w0 w') (hr : r = .error a) : RFEnd w0 w g Rb r (faultE a) w' := by
  subst hr; exact ⟨h, hb, rfl⟩

set_option maxHeartbeats 8000000 in
set_option maxRecDepth 100000 in
theorem ruleF_calls {w0 w : World} {g P X Rb : Nat} {s : ByteArray} {L : Value} {c : Src}
    (hp : IsP w0 w g s L c 0 nil6) (hB : Below w0.heap.size w0 w)
    (hP : w.heap[P]? = some (.cells #[.pointer (some ⟨g, 0, none⟩)] 64 (0, 0))) (hX : w.heap[X]? = some (.cells #[.string s] 9 (0, 0))) (hR : w.heap[Rb]? = some (.cells #[.string ⟨#[]⟩, .slice none 0 0, .slice none 0 0] 29 (0, 0)))
    (hd : P ≠ g ∧ X ≠ g ∧ Rb ≠ g ∧ P ≠ Rb ∧ X ≠ Rb ∧ w0.heap.size ≤ Rb ∧ ∀ k, L.ownBlock = some k → k ≠ Rb) :
    Calls Try.prog 28 #[.pointer (some ⟨P, 0, none⟩), .pointer (some ⟨Rb, 0, none⟩), .pointer (some ⟨X, 0, none⟩)] w (RFEnd w0 w g Rb (ruleC c s.size)) := by
  generalize hr : ruleC c s.size = r
  have hlen := hp.2.2.2
  have hgl := hp.lt
  have hrb := blk_lt hR
  have hpl := blk_lt hP
  have hxl := blk_lt hX
  have HI := Aside0.mk (Nat.zero_le c.T.length)
  have HGE := Aside0.mk hp.ge
  have HP := Aside0.mk hp
  have HB := Aside0.mk hB
  have HK := Aside0.mk (KeepBut.refl w g none)
  have HZP := Aside0.mk hP
  have HZX := Aside0.mk hX
  have HZR := Aside0.mk hR
  have HD := Aside0.mk hd
  obtain ⟨c0, f0⟩ := one_cell hP
  obtain ⟨c1, f1⟩ := one_cell hX
  obtain ⟨d0, d1, d2, e0, e1, e2⟩ := cells3 hR
  clear hp hB hP hX hR hd
  unfold ruleC at hr
  cases h1 : takeP c 0 [1] with
  | error a =>
    rw [h1] at hr
    simp only at hr
    have HQR := Aside0.mk hr
    have HT := Aside0.mk h1
    clear hr h1
    go_enter Try.func28, Try.ntmps28
    go_wp2
    go_region_with (first | (go_at_call 30; (with_reducible refine (take_err (w0 := w0) (s := s) (L := L) (q := nil6) (h := HT.out) ?h1 ?h2 ?h3 ?h4 ?h5 ?h6).mono ?_); (case h1 => repeat (first | exact HP.out | apply IsP.alloc | apply IsP.drewN | apply IsP.drew | apply IsP.step1)); (case h2 => exact HI.out); (case h3 => repeat (first | exact HB.out | apply below_alloc | apply pw_below_drewN | apply below_drew1 | refine below_set ?_ HGE.out)); (case h4 => repeat (first | exact Wants.of_new (by simp) rfl rfl | apply Wants.drewN | apply Wants.drew)); (case h5 => decide); (case h6 => decide); rintro e w2 ⟨rfl, hk, hb⟩; have HKE : Aside0 (KeepBut w w2 g none) := ⟨KeepBut.trans (by repeat (first | exact HK.out | apply KeepBut.set_ | apply keep_drewN | apply keep_drew | apply keep_alloc)) hk (.inl rfl)⟩; have HBE := Aside0.mk hb; clear hk hb; dsimp only; refine by_none (w := w2) (⟨rfl, RFEnd.of_err HKE.out HBE.out HQR.out.symm⟩) ?_))
    all_goals trivial
  | ok r1 =>
    obtain ⟨t, i1⟩ := r1
    rw [h1] at hr
    simp only at hr
    have HI1 := Aside0.mk (takeP_lt (by decide) h1).2.1
    have HT := Aside0.mk h1
    have hfd := fun w => field71_1 (.int .i64 (t.k : Int)) (.string t.t) (.int .i64 (t.a : Int)) (.int .i64 (t.e : Int)) w
    cases h2 : ruleP c i1 t.t with
    | error a =>
      rw [h2] at hr
      simp only at hr
      have HQR := Aside0.mk hr
      have HT2 := Aside0.mk h2
      clear hr h1 h2
      go_enter Try.func28, Try.ntmps28
      go_wp2
      go_region_with (first | (go_at_call 30; (with_reducible refine (take_ok (w0 := w0) (s := s) (L := L) (q := nil6) (h := HT.out) ?h1 ?h2 ?h3 ?h4 ?h5 ?h6).mono ?_); (case h1 => repeat (first | exact HP.out | apply IsP.alloc | apply IsP.drewN | apply IsP.drew | apply IsP.step1)); (case h2 => exact HI.out); (case h3 => repeat (first | exact HB.out | apply below_alloc | apply pw_below_drewN | apply below_drew1 | refine below_set ?_ HGE.out)); (case h4 => repeat (first | exact Wants.of_new (by simp) rfl rfl | apply Wants.drewN | apply Wants.drew)); (case h5 => decide); (case h6 => decide); rintro e w2 ⟨rfl, hp, hk, hb⟩; have nHK : Aside0 (KeepBut w w2 g none) := ⟨KeepBut.trans (by repeat (first | exact HK.out | apply KeepBut.set_ | apply keep_drewN | apply keep_drew | apply keep_alloc)) hk (.inl rfl)⟩; have nHB := Aside0.mk hb; have nHP := Aside0.mk hp; clear hk hb hp HK HB HP; have HK := nHK; have HB := nHB; have HP := nHP; clear nHK nHB nHP; have hs2 := HK.out.1; have hp2l := Nat.lt_of_lt_of_le hpl hs2; have hx2l := Nat.lt_of_lt_of_le hxl hs2; have hr2l := Nat.lt_of_lt_of_le hrb hs2; obtain ⟨c0, f0⟩ := one_cell (HK.out.blk HZP.out HD.out.1 (by simp)); obtain ⟨c1, f1⟩ := one_cell (HK.out.blk HZX.out HD.out.2.1 (by simp)); obtain ⟨d0, d1, d2, e0, e1, e2⟩ := cells3 (HK.out.blk HZR.out HD.out.2.2.1 (by simp))) | (go_at_call 29; (with_reducible refine (rule_err (w0 := w0) (s := s) (L := L) (q := nil6) (h := HT2.out) ?r1 ?r2 ?r3).mono ?_); (case r1 => repeat (first | exact HP.out | apply IsP.alloc | apply IsP.drewN | apply IsP.drew | apply IsP.step1)); (case r2 => exact HI1.out); (case r3 => repeat (first | exact HB.out | apply below_alloc | apply pw_below_drewN | apply below_drew1 | refine below_set ?_ HGE.out)); rintro e w2 ⟨rfl, hk, hb⟩; have HKE : Aside0 (KeepBut w w2 g none) := ⟨KeepBut.trans (by repeat (first | exact HK.out | apply KeepBut.set_ | apply keep_drewN | apply keep_drew | apply keep_alloc)) hk (.inl rfl)⟩; have HBE := Aside0.mk hb; clear hk hb; dsimp only; refine by_none (w := w2) (⟨rfl, RFEnd.of_err HKE.out HBE.out HQR.out.symm⟩) ?_))
      all_goals trivial
    | ok r2 =>
      obtain ⟨x, i2⟩ := r2
      rw [h2] at hr
      simp only at hr
      have HI2 := Aside0.mk (ruleP_le (takeP_lt (by decide) h1).2.1 h2).2
      have HT2 := Aside0.mk h2
      have HQR := Aside0.mk hr
      clear hr h1 h2
      go_enter Try.func28, Try.ntmps28
      go_wp2
      go_cut [8] (fun v8 w4 => ∃ v1 v2, Aside0 (w4.heap[Rb]? = some (.cells #[.string x.f0.f0, v1, v2] 29 (0, 0))) ∧ Aside0 (Kd.R k61 61 w4 w.heap.size (fun k => w.heap.size ≤ k) v1 x.f0.f1) ∧ Aside0 (Kd.R k63 63 w4 w.heap.size (fun k => w.heap.size ≤ k) v2 x.f1) ∧ Aside0 (IsP w0 w4 g s L c i2 nil6) ∧ Aside0 (KeepR w w4 g Rb) ∧ Aside0 (Below w0.heap.size w0 w4))
      case first =>
        go_region_law (first | (go_simp; go_wp2_with (first | (go_at_call 30; (with_reducible refine (take_ok (w0 := w0) (s := s) (L := L) (q := nil6) (h := HT.out) ?h1 ?h2 ?h3 ?h4 ?h5 ?h6).mono ?_); (case h1 => repeat (first | exact HP.out | apply IsP.alloc | apply IsP.drewN | apply IsP.drew | apply IsP.step1)); (case h2 => exact HI.out); (case h3 => repeat (first | exact HB.out | apply below_alloc | apply pw_below_drewN | apply below_drew1 | refine below_set ?_ HGE.out)); (case h4 => repeat (first | exact Wants.of_new (by simp) rfl rfl | apply Wants.drewN | apply Wants.drew)); (case h5 => decide); (case h6 => decide); rintro e w2 ⟨rfl, hp, hk, hb⟩; have nHK : Aside0 (KeepBut w w2 g none) := ⟨KeepBut.trans (by repeat (first | exact HK.out | apply KeepBut.set_ | apply keep_drewN | apply keep_drew | apply keep_alloc)) hk (.inl rfl)⟩; have nHB := Aside0.mk hb; have nHP := Aside0.mk hp; clear hk hb hp HK HB HP; have HK := nHK; have HB := nHB; have HP := nHP; clear nHK nHB nHP; have hs2 := HK.out.1; have hp2l := Nat.lt_of_lt_of_le hpl hs2; have hx2l := Nat.lt_of_lt_of_le hxl hs2; have hr2l := Nat.lt_of_lt_of_le hrb hs2; obtain ⟨c0, f0⟩ := one_cell (HK.out.blk HZP.out HD.out.1 (by simp)); obtain ⟨c1, f1⟩ := one_cell (HK.out.blk HZX.out HD.out.2.1 (by simp)); obtain ⟨d0, d1, d2, e0, e1, e2⟩ := cells3 (HK.out.blk HZR.out HD.out.2.2.1 (by simp))) | (go_at_call 29; (with_reducible refine (rule_ok (w0 := w0) (s := s) (L := L) (q := nil6) (h := HT2.out) ?r1 ?r2 ?r3).mono ?_); (case r1 => repeat (first | exact HP.out | apply IsP.alloc | apply IsP.drewN | apply IsP.drew | apply IsP.step1)); (case r2 => exact HI1.out); (case r3 => repeat (first | exact HB.out | apply below_alloc | apply pw_below_drewN | apply below_drew1 | refine below_set ?_ HGE.out)); rintro e w6 ⟨A1, k1, A2, k2, rfl, hx1, hx2, hp, hk, hb⟩; have nHK : Aside0 (KeepBut w w6 g none) := ⟨KeepBut.trans (by repeat (first | exact HK.out | apply KeepBut.set_ | apply keep_drewN | apply keep_drew | apply keep_alloc)) hk (.inl rfl)⟩; have HV1 : Aside0 (Kd.R k61 61 w6 w.heap.size (fun k => w.heap.size ≤ k) (.slice A1 x.f0.f1.length k1) x.f0.f1) := ⟨Kd.R_lower (Kd.R_mono (Kd.R_bound hx1) (fun k h => Nat.le_trans (show w.heap.size ≤ _ from (keep_size (KeepBut.trans (w := w) (g := g) (row := none) (by repeat (first | exact HK.out | apply KeepBut.set_ | apply keep_drewN | apply keep_drew | apply keep_alloc)) (KeepBut.refl _ g none) (.inl rfl)))) h.2.1)) (keep_size (KeepBut.trans (w := w) (g := g) (row := none) (by repeat (first | exact HK.out | apply KeepBut.set_ | apply keep_drewN | apply keep_drew | apply keep_alloc)) (KeepBut.refl _ g none) (.inl rfl)))⟩; have HV2 : Aside0 (Kd.R k63 63 w6 w.heap.size (fun k => w.heap.size ≤ k) (.slice A2 x.f1.length k2) x.f1) := ⟨Kd.R_lower (Kd.R_mono (Kd.R_bound hx2) (fun k h => Nat.le_trans (show w.heap.size ≤ _ from (keep_size (KeepBut.trans (w := w) (g := g) (row := none) (by repeat (first | exact HK.out | apply KeepBut.set_ | apply keep_drewN | apply keep_drew | apply keep_alloc)) (KeepBut.refl _ g none) (.inl rfl)))) h.2.1)) (keep_size (KeepBut.trans (w := w) (g := g) (row := none) (by repeat (first | exact HK.out | apply KeepBut.set_ | apply keep_drewN | apply keep_drew | apply keep_alloc)) (KeepBut.refl _ g none) (.inl rfl)))⟩; have nHB := Aside0.mk hb; have nHP := Aside0.mk hp; clear hx1 hx2 hk hb hp HK HB HP; have HK := nHK; have HB := nHB; have HP := nHP; clear nHK nHB nHP; have hs6 := HK.out.1; have hp6l := Nat.lt_of_lt_of_le hpl hs6; have hx6l := Nat.lt_of_lt_of_le hxl hs6; have hr6l := Nat.lt_of_lt_of_le hrb hs6; obtain ⟨c0, f0⟩ := one_cell (HK.out.blk HZP.out HD.out.1 (by simp)); obtain ⟨c1, f1⟩ := one_cell (HK.out.blk HZX.out HD.out.2.1 (by simp)); obtain ⟨d0, d1, d2, e0, e1, e2⟩ := cells3 (HK.out.blk HZR.out HD.out.2.2.1 (by simp))))))
        all_goals
          have NZ := Aside0.mk (blk3 (u0 := .string x.f0.f0) (u1 := .slice A1 x.f0.f1.length k1) (u2 := .slice A2 x.f1.length k2) (HK.out.blk HZR.out HD.out.2.2.1 (by simp)))
          have NV1 := Aside0.mk (R3 (b := Rb) HV1.out (fun k hk => by omega) (.string x.f0.f0) (.slice A1 x.f0.f1.length k1) (.slice A2 x.f1.length k2))
          have NV2 := Aside0.mk (R3 (b := Rb) HV2.out (fun k hk => by omega) (.string x.f0.f0) (.slice A1 x.f0.f1.length k1) (.slice A2 x.f1.length k2))
          have NP := Aside0.mk (isP3 HP.out HD.out.2.2.1 HD.out.2.2.2.2.2.2 (.string x.f0.f0) (.slice A1 x.f0.f1.length k1) (.slice A2 x.f1.length k2))
          have NK := Aside0.mk ((((KeepR.of HK.out).set (b := Rb) 0 (.string x.f0.f0)).set 1 (.slice A1 x.f0.f1.length k1)).set 2 (.slice A2 x.f1.length k2))
          have NB := Aside0.mk (below3 HB.out HD.out.2.2.2.2.2.1 (.string x.f0.f0) (.slice A1 x.f0.f1.length k1) (.slice A2 x.f1.length k2))
          go_step
          go_step
          go_meet
          exact ⟨_, _, NZ, NV1, NV2, NP, NK, NB⟩
      case rest =>
      obtain ⟨v1, v2, HZR2, HV1, HV2, HP2, HKR, HB2⟩ := hcut
      have HQ := Aside0.mk HQR.out
      clear HP HB HK hfd HT HT2 c0 f0 c1 f1 d0 d1 d2 e0 e1 e2
      have HP := HP2
      have HB := HB2
      clear HP2 HB2
      obtain ⟨c0, f0⟩ := one_cell ((HKR.out.2 P hpl HD.out.1 HD.out.2.2.2.1).trans HZP.out)
      obtain ⟨c1, f1⟩ := one_cell ((HKR.out.2 X hxl HD.out.2.1 HD.out.2.2.2.2.1).trans HZX.out)
      obtain ⟨A, cc, hLe, hC⟩ := HP.out.tokens
      obtain ⟨p0, p1, p2, p3, p4, p5, p6, p7, pf⟩ := pc HP.out.1
      rw [hLe] at p1
      clear hLe hC p0 p3 p4 p5
      have hq := HQR.out
      clear HQR HQ
      by_cases hlt : i2 < c.T.length
      · rw [if_pos (.inl hlt)] at hq
        have HE := Aside0.mk hq
        have hd1 : decide (i2 < c.T.length) = true := decide_eq_true hlt
        clear hq hlt
        go_wp2
        go_quiet (fail)
        go_wp2_with (first | (go_at_call 31; (with_reducible refine (stop_calls (w0 := w0) (s := s) (L := L) (q := nil6) (wl := []) ?s1 HI2.out ?s2 ?s3).mono ?_); (case s1 => repeat (first | exact HP.out | apply IsP.alloc | apply IsP.drewN | apply IsP.drew | apply IsP.step1)); (case s2 => repeat (first | exact Wants.nil _ | apply Wants.drewN | apply Wants.drew)); (case s3 => decide); rintro e w9 ⟨rfl, hb⟩; have HK9 : Aside0 (KeepR w w9 g Rb) := ⟨KeepR.below (by repeat (first | exact HKR.out | apply KeepR.drewN | apply KeepR.drew)) hb⟩; have HB9 := Aside0.mk (below_step (by repeat (first | exact HB.out | apply pw_below_drewN | apply below_drew1)) hb); clear hb; simp only [faultE]))
        exact ⟨rfl, RFEnd.of_err2 HK9.out HB9.out HE.out.symm⟩
      · have hd1 : decide (i2 < c.T.length) = false := decide_eq_false hlt
        by_cases hfar : c.far < s.size
        · rw [if_pos (.inr (.inl hfar))] at hq
          have HE := Aside0.mk hq
          have hd2 : decide (c.far < s.size) = true := decide_eq_true hfar
          clear hq hlt hfar
          go_wp2
          go_quiet (fail)
          go_wp2_with (first | (go_at_call 31; (with_reducible refine (stop_calls (w0 := w0) (s := s) (L := L) (q := nil6) (wl := []) ?s1 HI2.out ?s2 ?s3).mono ?_); (case s1 => repeat (first | exact HP.out | apply IsP.alloc | apply IsP.drewN | apply IsP.drew | apply IsP.step1)); (case s2 => repeat (first | exact Wants.nil _ | apply Wants.drewN | apply Wants.drew)); (case s3 => decide); rintro e w9 ⟨rfl, hb⟩; have HK9 : Aside0 (KeepR w w9 g Rb) := ⟨KeepR.below (by repeat (first | exact HKR.out | apply KeepR.drewN | apply KeepR.drew)) hb⟩; have HB9 := Aside0.mk (below_step (by repeat (first | exact HB.out | apply pw_below_drewN | apply below_drew1)) hb); clear hb; simp only [faultE]))
          exact ⟨rfl, RFEnd.of_err2 HK9.out HB9.out HE.out.symm⟩
        · have hd2 : decide (c.far < s.size) = false := decide_eq_false hfar
          by_cases hok : c.o.k = 0
          · rw [if_neg (fun e => e.elim hlt (fun e => e.elim hfar (fun e => e hok)))] at hq
            have HE := Aside0.mk hq
            have hd3 : ((c.o.k : Int) != 0) = false := bne_eq_false_iff_eq.2 (by omega)
            clear hq hlt hfar hok
            go_wp2
            go_quiet (fail)
            go_wp2
            go_end0
            rw [← HE.out]
            exact ⟨HKR.out.drewN _, pw_below_drewN HB.out _, v1, v2, rfl, HZR2.out, Kd.R_drewN HV1.out _, Kd.R_drewN HV2.out _⟩
          · rw [if_pos (.inr (.inr hok))] at hq
            have HE := Aside0.mk hq
            have hd3 : ((c.o.k : Int) != 0) = true := bne_iff_ne.2 (by omega)
            clear hq hlt hfar hok
            go_wp2
            go_quiet (fail)
            go_wp2_with (first | (go_at_call 31; (with_reducible refine (stop_calls (w0 := w0) (s := s) (L := L) (q := nil6) (wl := []) ?s1 HI2.out ?s2 ?s3).mono ?_); (case s1 => repeat (first | exact HP.out | apply IsP.alloc | apply IsP.drewN | apply IsP.drew | apply IsP.step1)); (case s2 => repeat (first | exact Wants.nil _ | apply Wants.drewN | apply Wants.drew)); (case s3 => decide); rintro e w9 ⟨rfl, hb⟩; have HK9 : Aside0 (KeepR w w9 g Rb) := ⟨KeepR.below (by repeat (first | exact HKR.out | apply KeepR.drewN | apply KeepR.drew)) hb⟩; have HB9 := Aside0.mk (below_step (by repeat (first | exact HB.out | apply pw_below_drewN | apply below_drew1)) hb); clear hb; simp only [faultE]))
            exact ⟨rfl, RFEnd.of_err2 HK9.out HB9.out HE.out.symm⟩
end Go.Proofs.Ytdodajpiidkglaa.K
