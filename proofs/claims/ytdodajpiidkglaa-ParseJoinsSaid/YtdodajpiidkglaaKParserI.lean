/- (*parser).arity: the walk. Conditions: the parser lies in memory as 'IsP' says; the tokens' places and texts are of a machine's size. -/
import Derived.Test.YtdodajpiidkglaaKParserH
import Derived.Test.YtdodajpiidkglaaKProgPure
namespace Go.Proofs.Ytdodajpiidkglaa.K
open Go.RowKit Go.Proofs.YtdodajpiidkglaaW.PrintWords Go.Proofs.YtdodajpiidkglaaW.PrintLast Go.Proofs.YtdodajpiidkglaaW.PrintMore Go.Proofs.Ytdodajpiidkglaa.PAll
set_option linter.unusedVariables false
set_option linter.unusedSimpArgs false

theorem cells4 {W : World} {b t : Nat} {c0 c1 c2 c3 : Value} (h : W.heap[b]? = some (.cells #[c0, c1, c2, c3] t (0, 0))) :
    W.cell? ⟨b, 0, none⟩ = some c0 ∧ W.cell? ⟨b, 1, none⟩ = some c1 ∧ W.cell? ⟨b, 2, none⟩ = some c2 ∧ W.cell? ⟨b, 3, none⟩ = some c3 :=
  ⟨(blk_cell h 0).trans rfl, (blk_cell h 1).trans rfl, (blk_cell h 2).trans rfl, (blk_cell h 3).trans rfl⟩
def arityR (_ : World) (x : ByteArray × Nat) (v : Value) : Prop := v = .tuple #[.string x.1, .int .i64 (x.2 : Int)]
theorem digV_lt (c : UInt8) : digV c < 256 := Nat.mod_lt _ (by decide)
theorem digV_wrap (c : UInt8) : ((c.toNat : Int) - 48) % 256 = (digV c : Int) := by unfold digV; omega

set_option maxHeartbeats 8000000 in
set_option maxRecDepth 100000 in
theorem arity_calls {w0 w : World} {g : Nat} {s : ByteArray} {L : Value} {c : Src} {i : Nat} {q : List Value} (hp : IsP w0 w g s L c i q) (hi : i ≤ c.T.length) (hB : Below w0.heap.size w0 w) (hT : ∀ k, (c.at_ k).a ≤ 2147483647 ∧ (c.at_ k).t.size ≤ 2147483647) :
    Calls Try.prog 63 #[.pointer (some ⟨g, 0, none⟩)] w (PEnd w0 w g s L c q arityR (arityQ c i)) := by
  generalize hr : arityQ c i = r
  have hgl := hp.lt
  have HGE := Aside0.mk hp.ge
  have hge : w0.heap.size ≤ w.heap.size := hB.size
  have HI := Aside0.mk hi
  have HP := Aside0.mk hp
  have HB := Aside0.mk hB
  have HK := Aside0.mk (KeepBut.refl w g none)
  have hlen := hp.2.2.2
  have HTT := Aside0.mk hT
  clear hp hB hT
  unfold arityQ at hr
  cases h1 : takeP c i [1] with
  | error a =>
    rw [h1] at hr
    simp only at hr
    have HR := Aside0.mk hr
    have HT := Aside0.mk h1
    clear hr h1
    go_enter Try.func63, Try.ntmps63
    go_wp2_with (first | (go_at_call 30; (with_reducible refine (take_err (w0 := w0) (s := s) (L := L) (q := q) (h := HT.out) ?h1 ?h2 ?h3 ?h4 ?h5 ?h6).mono ?_); (case h1 => repeat (first | exact HP.out | apply IsP.alloc | apply IsP.drewN | apply IsP.drew | apply IsP.step1)); (case h2 => exact HI.out); (case h3 => repeat (first | exact HB.out | apply below_alloc | apply pw_below_drewN | apply below_drew1 | refine below_set ?_ HGE.out)); (case h4 => repeat (first | exact Wants.of_new (by simp) rfl rfl | apply Wants.drewN)); (case h5 => decide); (case h6 => decide); rintro e w2 ⟨rfl, hk, hb⟩; have HKE := Aside0.mk (KeepBut.trans (by repeat (first | exact HK.out | apply KeepBut.set_ | apply keep_drewN | apply keep_drew | apply keep_alloc)) hk (.inl rfl)); have HBE := Aside0.mk hb; clear hk hb))
    exact ⟨rfl, PEnd.of_err ⟨rfl, HKE.out, HBE.out⟩ HR.out.symm⟩
  | ok r1 =>
    obtain ⟨t, i1⟩ := r1
    rw [h1] at hr
    simp only at hr
    have HI1 := Aside0.mk (takeP_lt (by decide) h1).2.1
    have HT := Aside0.mk h1
    clear h1
    have hfd := fun w => field71_1 (.int .i64 (t.k : Int)) (.string t.t) (.int .i64 (t.a : Int)) (.int .i64 (t.e : Int)) w
    go_enter Try.func63, Try.ntmps63
    go_upto_region 2 with (first | (go_at_call 30; (with_reducible refine (take_ok (w0 := w0) (s := s) (L := L) (q := q) (h := HT.out) ?h1 ?h2 ?h3 ?h4 ?h5 ?h6).mono ?_); (case h1 => repeat (first | exact HP.out | apply IsP.alloc | apply IsP.drewN | apply IsP.drew | apply IsP.step1)); (case h2 => exact HI.out); (case h3 => repeat (first | exact HB.out | apply below_alloc | apply pw_below_drewN | apply below_drew1 | refine below_set ?_ HGE.out)); (case h4 => repeat (first | exact Wants.of_new (by simp) rfl rfl | apply Wants.drewN)); (case h5 => decide); (case h6 => decide); rintro e w2 ⟨rfl, hp, hk, hb⟩; have nHK := Aside0.mk (KeepBut.trans (by repeat (first | exact HK.out | apply KeepBut.set_ | apply keep_drewN | apply keep_drew | apply keep_alloc)) hk (.inl rfl)); have nHB := Aside0.mk hb; have nHP := Aside0.mk hp; clear hk hb hp HK HB HP; have HK := nHK; have HB := nHB; have HP := nHP; clear nHK nHB nHP))
    clear hfd HT
    cases h2 : takeP c i1 [12] with
    | error a =>
      rw [h2] at hr
      simp only at hr
      have HR := Aside0.mk hr
      have HT := Aside0.mk h2
      clear hr h2
      go_wp2_with (first | (go_at_call 30; (with_reducible refine (take_err (w0 := w0) (s := s) (L := L) (q := q) (h := HT.out) ?h1 ?h2 ?h3 ?h4 ?h5 ?h6).mono ?_); (case h1 => repeat (first | exact HP.out | apply IsP.alloc | apply IsP.drewN | apply IsP.drew | apply IsP.step1)); (case h2 => exact HI1.out); (case h3 => repeat (first | exact HB.out | apply below_alloc | apply pw_below_drewN | apply below_drew1 | refine below_set ?_ HGE.out)); (case h4 => repeat (first | exact Wants.of_new (by simp) rfl rfl | apply Wants.drewN)); (case h5 => decide); (case h6 => decide); rintro e w2 ⟨rfl, hk, hb⟩; have HKE := Aside0.mk (KeepBut.trans (by repeat (first | exact HK.out | apply KeepBut.set_ | apply keep_drewN | apply keep_drew | apply keep_alloc)) hk (.inl rfl)); have HBE := Aside0.mk hb; clear hk hb))
      exact ⟨rfl, PEnd.of_err ⟨rfl, HKE.out, HBE.out⟩ HR.out.symm⟩
    | ok r2 =>
      obtain ⟨t2, i2⟩ := r2
      rw [h2] at hr
      simp only at hr
      have HI2 := Aside0.mk (takeP_lt (by decide) h2).2.1
      have HT := Aside0.mk h2
      clear h2
      go_upto_region 3 with (first | (go_at_call 30; (with_reducible refine (take_ok (w0 := w0) (s := s) (L := L) (q := q) (h := HT.out) ?h1 ?h2 ?h3 ?h4 ?h5 ?h6).mono ?_); (case h1 => repeat (first | exact HP.out | apply IsP.alloc | apply IsP.drewN | apply IsP.drew | apply IsP.step1)); (case h2 => exact HI1.out); (case h3 => repeat (first | exact HB.out | apply below_alloc | apply pw_below_drewN | apply below_drew1 | refine below_set ?_ HGE.out)); (case h4 => repeat (first | exact Wants.of_new (by simp) rfl rfl | apply Wants.drewN)); (case h5 => decide); (case h6 => decide); rintro e w2 ⟨rfl, hp, hk, hb⟩; have nHK := Aside0.mk (KeepBut.trans (by repeat (first | exact HK.out | apply KeepBut.set_ | apply keep_drewN | apply keep_drew | apply keep_alloc)) hk (.inl rfl)); have nHB := Aside0.mk hb; have nHP := Aside0.mk hp; clear hk hb hp HK HB HP; have HK := nHK; have HB := nHB; have HP := nHP; clear nHK nHB nHP))
      clear HT
      cases h3 : takeP c i2 [3] with
      | error a =>
        rw [h3] at hr
        simp only at hr
        have HR := Aside0.mk hr
        have HT := Aside0.mk h3
        clear hr h3
        go_wp2_with (first | (go_at_call 30; (with_reducible refine (take_err (w0 := w0) (s := s) (L := L) (q := q) (h := HT.out) ?h1 ?h2 ?h3 ?h4 ?h5 ?h6).mono ?_); (case h1 => repeat (first | exact HP.out | apply IsP.alloc | apply IsP.drewN | apply IsP.drew | apply IsP.step1)); (case h2 => exact HI2.out); (case h3 => repeat (first | exact HB.out | apply below_alloc | apply pw_below_drewN | apply below_drew1 | refine below_set ?_ HGE.out)); (case h4 => repeat (first | exact Wants.of_new (by simp) rfl rfl | apply Wants.drewN)); (case h5 => decide); (case h6 => decide); rintro e w2 ⟨rfl, hk, hb⟩; have HKE := Aside0.mk (KeepBut.trans (by repeat (first | exact HK.out | apply KeepBut.set_ | apply keep_drewN | apply keep_drew | apply keep_alloc)) hk (.inl rfl)); have HBE := Aside0.mk hb; clear hk hb))
        exact ⟨rfl, PEnd.of_err ⟨rfl, HKE.out, HBE.out⟩ HR.out.symm⟩
      | ok r3 =>
        obtain ⟨u, i3⟩ := r3
        rw [h3] at hr
        simp only at hr
        obtain ⟨hj1, hj2, hj3, hj4⟩ := takeP_lt (by decide) h3
        have HI3 := Aside0.mk hj2
        have hta : u.a ≤ 2147483647 := by rw [hj3]; exact (HTT.out i2).1
        have hts : u.t.size ≤ 2147483647 := by rw [hj3]; exact (HTT.out i2).2
        have HT := Aside0.mk h3
        clear h3 hj1 hj2 hj3 hj4
        go_upto_region 4 with (first | (go_at_call 30; (with_reducible refine (take_ok (w0 := w0) (s := s) (L := L) (q := q) (h := HT.out) ?h1 ?h2 ?h3 ?h4 ?h5 ?h6).mono ?_); (case h1 => repeat (first | exact HP.out | apply IsP.alloc | apply IsP.drewN | apply IsP.drew | apply IsP.step1)); (case h2 => exact HI2.out); (case h3 => repeat (first | exact HB.out | apply below_alloc | apply pw_below_drewN | apply below_drew1 | refine below_set ?_ HGE.out)); (case h4 => repeat (first | exact Wants.of_new (by simp) rfl rfl | apply Wants.drewN)); (case h5 => decide); (case h6 => decide); rintro e w2 ⟨rfl, hp, hk, hb⟩; have nHK := Aside0.mk (KeepBut.trans (by repeat (first | exact HK.out | apply KeepBut.set_ | apply keep_drewN | apply keep_drew | apply keep_alloc)) hk (.inl rfl)); have nHB := Aside0.mk hb; have nHP := Aside0.mk hp; clear hk hb hp HK HB HP; have HK := nHK; have HB := nHB; have HP := nHP; clear nHK nHB nHP))
        have HZ := Aside0.mk (blk_new w2 (.cells #[.int .i64 (u.k : Int), .string u.t, .int .i64 (u.a : Int), .int .i64 (u.e : Int)] 71))
        have nHP := Aside0.mk (HP.out.alloc (.cells #[.int .i64 (u.k : Int), .string u.t, .int .i64 (u.a : Int), .int .i64 (u.e : Int)] 71))
        have nHK := Aside0.mk (keep_alloc HK.out (.cells #[.int .i64 (u.k : Int), .string u.t, .int .i64 (u.a : Int), .int .i64 (u.e : Int)] 71))
        have nHB := Aside0.mk (below_alloc HB.out (.cells #[.int .i64 (u.k : Int), .string u.t, .int .i64 (u.a : Int), .int .i64 (u.e : Int)] 71))
        clear HP HK HB HT
        generalize w2.alloc (.cells #[.int .i64 (u.k : Int), .string u.t, .int .i64 (u.a : Int), .int .i64 (u.e : Int)] 71) = W at *
        generalize w2.heap.size = b at *
        obtain ⟨y0, y1, y2, y3⟩ := cells4 HZ.out
        generalize hrd : digitsQ u.a u.t.data.toList 0 0 = rd at hr
        have HR := Aside0.mk hr
        have HRD := Aside0.mk hrd
        clear hr hrd
        go_wp2
        go_loopg [6, 22] u.t.size (fun n v6 v22 wc => ∃ j m : Nat, v22 = .int .i64 (j : Int) ∧ v6 = .int .i64 (m : Int) ∧ j + n = u.t.size ∧ m ≤ 16 ∧ Aside0 (digitsQ u.a (from_ u.t j) j m = rd) ∧ wc = W)
        case atStart => exact ⟨0, 0, rfl, rfl, by omega, by omega, ⟨HRD.out⟩, rfl⟩
        case round =>
          obtain ⟨j, m, rfl, rfl, hj, hm, HD, rfl⟩ := hrel
          by_cases hlt : j < u.t.size
          · obtain ⟨d, hc, hb⟩ := from_cons u.t j hlt
            have hx : ∀ h : j < u.t.size, ((u.t[j]'h).toNat : Int) = (d.toNat : Int) := fun h => (bt_at u.t (j : Int) h).trans hb
            have hjb : decide ((j : Int) < (u.t.size : Int)) = true := decide_eq_true (by omega)
            have hcl := d.toNat_lt
            have hD := HD.out
            rw [hc] at hD
            clear hb hc HD HRD
            unfold digitsQ at hD
            go_upto_region 9 with (fail)
            have hv : 10 * (m : Int) + ((d.toNat : Int) - 48) % 256 = ((10 * m + digV d : Nat) : Int) := by rw [digV_wrap]; omega
            rw [hv]
            have hm2 : 10 * m + digV d ≤ 1000 := by have := digV_lt d; omega
            clear hv
            generalize 10 * m + digV d = m2 at *
            by_cases h16 : 16 < m2
            · rw [if_pos (.inl h16)] at hD
              have HE := Aside0.mk (show Except.error (u.a + j) = r from by rw [← HR.out, ← hD])
              have b1 : decide ((16 : Int) < (m2 : Int)) = true := decide_eq_true (by omega)
              clear hD h16
              go_wp2
              exact ⟨rfl, PEnd.of_err ⟨rfl, nHK.out, nHB.out⟩ HE.out.symm⟩
            · have b1 : decide ((16 : Int) < (m2 : Int)) = false := decide_eq_false (by omega)
              by_cases h0 : 0 < j ∧ m = 0
              · rw [if_pos (.inr h0)] at hD
                have HE := Aside0.mk (show Except.error (u.a + j) = r from by rw [← HR.out, ← hD])
                have b2 : decide ((0 : Int) < (j : Int)) = true := decide_eq_true (by omega)
                have b3 : decide (0 < j) = true := decide_eq_true h0.1
                have b4 : ((m : Int) == 0) = true := beq_iff_eq.2 (by omega)
                clear hD h0 h16
                go_wp2
                exact ⟨rfl, PEnd.of_err ⟨rfl, nHK.out, nHB.out⟩ HE.out.symm⟩
              · rw [if_neg (fun e => e.elim h16 h0)] at hD
                have HD2 := Aside0.mk hD
                have hm3 : m2 ≤ 16 := by omega
                by_cases hj0 : 0 < j
                · have b2 : decide ((0 : Int) < (j : Int)) = true := decide_eq_true (by omega)
                  have b3 : decide (0 < j) = true := decide_eq_true hj0
                  have b4 : ((m : Int) == 0) = false := beq_eq_false_iff_ne.2 (by omega)
                  clear hD h0 h16 hj0
                  go_wp2
                  go_roundg (u.t.size - (j + 1))
                  case measure => omega
                  case rel => exact ⟨j + 1, m2, by go_num, rfl, by omega, hm3, HD2, rfl⟩
                · have b2 : decide ((0 : Int) < (j : Int)) = false := decide_eq_false (by omega)
                  have b3 : decide (0 < j) = false := decide_eq_false hj0
                  clear hD h0 h16 hj0
                  go_wp2
                  go_roundg (u.t.size - (j + 1))
                  case measure => omega
                  case rel => exact ⟨j + 1, m2, by go_num, rfl, by omega, hm3, HD2, rfl⟩
          · have hjb : decide ((j : Int) < (u.t.size : Int)) = false := decide_eq_false (by omega)
            have HE := Aside0.mk (show Except.ok ((t.t, m), i3) = r from by
              have e := HD.out
              rw [from_end u.t j (by omega)] at e
              rw [← HR.out, ← e]; rfl)
            clear HRD HD
            go_wp2
            go_ret2
            exact PEnd.of_ok (x := (t.t, m)) ⟨_, rfl, (rfl : Value.tuple #[.string t.t, .int .i64 (m : Int)] = _), nHP.out, nHK.out, nHB.out⟩ HE.out.symm
end Go.Proofs.Ytdodajpiidkglaa.K
