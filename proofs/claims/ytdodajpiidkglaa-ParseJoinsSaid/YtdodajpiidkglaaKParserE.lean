/- (*parser).args: the walk. Conditions: the parser lies in memory as 'IsP' says. (*parser).literal: the walk. Conditions: the parser lies in memory as 'IsP' says. -/
import Derived.Test.YtdodajpiidkglaaKParserC
import Derived.Outline
namespace Go.Proofs.Ytdodajpiidkglaa.K
open Go.RowKit Go.Proofs.YtdodajpiidkglaaW.PrintWords Go.Proofs.YtdodajpiidkglaaW.PrintLast Go.Proofs.YtdodajpiidkglaaW.PrintMore Go.Proofs.Ytdodajpiidkglaa.PAll
set_option linter.unusedVariables false
set_option linter.unusedSimpArgs false

section
variable {w0 w W W1 : World} {g : Nat} {s : ByteArray} {L : Value} {c : Src} {i : Nat} {q : List Value}
theorem IsP.grown (h : IsP w0 W g s L c i q) {row : Option Nat} (hg : W.grownBy W1 row) (hr : ∀ b, row = some b → w.heap.size ≤ b) (hgl : g < w.heap.size) (hol : ∀ k, L.ownBlock = some k → k < w.heap.size) : IsP w0 W1 g s L c i q :=
  ⟨blk_grown h.1 hg (fun e => by have := hr g e.symm; omega), h.2.1, by
    obtain ⟨h0, inner, ho, hh⟩ := h.2.2.1
    refine ⟨h0, inner, own_move ho (fun k hk => hg.block k (Go.Proofs.YtdodajpiidkglaaW.PrintWords.own_lt ho k hk) (fun e => ?_)), hh⟩
    have h1 := hr k e.symm
    have h2 := hol k hk
    omega, h.2.2.2⟩
end
theorem row_base {α : Type} {d : Kd α} {e : Nat} {W : World} {base : Nat} {ok : Nat → Prop} {v : Value} {xs : List α} (h : d.R e W base ok v xs) : ∀ b, v.ownBlock = some b → base ≤ b := by
  intro b hb
  obtain ⟨_, inner, ho, _⟩ := h
  exact own_base ho b hb

def argsR (b : Nat) (W : World) (l : List S61) (v : Value) : Prop := Kd.R k61 61 W b (fun _ => True) v l

def AF (g : Nat) (v : Value) (u : Nat → Value) : Act := ⟨#[.pointer (some ⟨g, 0, none⟩), u 1, u 2, v, u 4, u 5, u 6, u 7, u 8, u 9, u 10, u 11, u 12, u 13, u 14, u 15, u 16, u 17, u 18, u 19, u 20, u 21, u 22, u 23, u 24, u 25, u 26, u 27, u 28, u 29, u 30, u 31, u 32, u 33, u 34, u 35, u 36, u 37, u 38, u 39, u 40, u 41, u 42, u 43, u 44], []⟩
def AI (w0 w : World) (g : Nat) (s : ByteArray) (L : Value) (c : Src) (q : List Value) (r : Except Nat (List S61 × Nat)) (l n : Nat) (a : Act) (w' : World) : Prop :=
  ∃ (i : Nat) (acc : List S61) (v : Value), (∃ u, a = AF g v u) ∧ l = 0 ∧ n = 16 - acc.length ∧ acc.length < 16 ∧ i ≤ c.T.length ∧ Aside0 (argsL c (16 - acc.length) i acc = r) ∧
    Aside0 (Kd.R k61 61 w' w.heap.size (fun k => k ≠ g) v acc) ∧ Aside0 (IsP w0 w' g s L c i q) ∧ Aside0 (KeepBut w w' g none) ∧ Aside0 (Below w0.heap.size w0 w')

set_option maxHeartbeats 8000000 in
set_option maxRecDepth 100000 in
theorem args_calls {w0 w : World} {g : Nat} {s : ByteArray} {L : Value} {c : Src} {i : Nat} {q : List Value} (hp : IsP w0 w g s L c i q) (hi : i ≤ c.T.length) (hB : Below w0.heap.size w0 w) :
    Calls Try.prog 53 #[.pointer (some ⟨g, 0, none⟩)] w (PEnd w0 w g s L c q (argsR w.heap.size) (argsP c i)) := by
  generalize hr : argsP c i = r
  have hgl := hp.lt
  have hol := hp.own_lt
  have hge : w0.heap.size ≤ w.heap.size := hB.size
  have HP := Aside0.mk hp
  have HB := Aside0.mk hB
  have HI := Aside0.mk hi
  have HO := Aside0.mk hol
  have hlen := hp.2.2.2
  clear hp hB hol
  go_enter Try.func53, Try.ntmps53
  go_wp2
  refine wp_scope_labels (AI w0 w g s L c q r) ?first ?pass
  case first =>
    intro J hJ hP
    have HPP := Aside0.mk hP
    clear hP hJ
    unfold argsP at hr
    by_cases h8 : (c.at_ i).k = 8
    · rw [if_pos h8] at hr
      have HR := Aside0.mk hr
      clear hr
      have hilt : i < c.T.length := lt_of_kind (by omega)
      have b8 : (((c.at_ i).k : Int) != 8) = false := bne_eq_false_iff_eq.2 (by omega)
      clear h8
      obtain ⟨p0, p1, p2, p3, p4, p5, p6, p7, pf⟩ := pc HP.out.1
      go_wp2_with (go_at_call 54; (with_reducible refine (kind_calls (w0 := w0) (s := s) (L := L) (q := q) ?k1 HI.out).mono ?_); (case k1 => repeat (first | exact HP.out | apply IsP.alloc | apply IsP.drewN | apply IsP.drew)); rintro e wk ⟨rfl, ⟨nd, rfl⟩⟩)
      go_step3
      go_step
      go_step
      refine HPP.out 0 16 _ _ _ ?hI rfl
      case hI =>
        refine ⟨i + 1, [], _, ex_frame _ (AF g _) rfl, rfl, by simp, by simp, by omega, HR, ⟨Kd.R_nil _ _ _ _ _⟩, ?_, ?_, ?_⟩
        · exact ⟨(HP.out.drewN nd).step (i + 1) _ (by omega)⟩
        · exact ⟨KeepBut.set_ (KeepBut.of_below (pw_below_drewN (Below.refl _ _) nd) g none) 7 _⟩
        · exact ⟨(pw_below_drewN HB.out nd).setCell HP.out.ge _⟩
    · rw [if_neg h8] at hr
      have HR := Aside0.mk hr
      clear hr
      have b8 : (((c.at_ i).k : Int) != 8) = true := bne_iff_ne.2 (by omega)
      clear h8
      go_wp2_with (go_at_call 54; (with_reducible refine (kind_calls (w0 := w0) (s := s) (L := L) (q := q) ?k1 HI.out).mono ?_); (case k1 => repeat (first | exact HP.out | apply IsP.alloc | apply IsP.drewN | apply IsP.drew)); rintro e wk ⟨rfl, ⟨nd, rfl⟩⟩)
      rw [jumps_ret]
      go_ret
      exact PEnd.of_ok ⟨_, rfl, Kd.R_nil _ _ _ _ _, HP.out.drewN nd, KeepBut.of_below (pw_below_drewN (Below.refl _ _) nd) g none, pw_below_drewN HB.out nd⟩ HR.out.symm
  case pass =>
    rintro l n a w1 ⟨i1, acc, v, ⟨u, rfl⟩, rfl, rfl, hacc, hi1, HA, HV, HP1, HK1, HB1⟩
    obtain ⟨A, cc, rfl⟩ := Kd.R_slice HV.out
    refine ⟨_, rfl, fun J hJ0 => ?_⟩
    have hJ := Aside0.mk hJ0
    clear hJ0 hr
    unfold AF
    obtain ⟨m, hm⟩ : ∃ m, 16 - acc.length = m + 1 := ⟨15 - acc.length, by omega⟩
    have hA := HA.out
    rw [hm] at hA
    unfold argsL at hA
    clear HA
    have HI1 := Aside0.mk hi1
    cases ht : termP c i1 with
    | error a =>
      rw [ht] at hA
      simp only at hA
      have HR := Aside0.mk hA
      have H := Aside0.mk ht
      clear hA ht
      go_wp2_with (go_at_call 74; (with_reducible refine (term_err (w0 := w0) (s := s) (L := L) (q := q) H.out ?t1 HI1.out ?t2).mono ?_); (case t1 => repeat (first | exact HP1.out | apply IsP.alloc | apply IsP.drewN | apply IsP.drew)); (case t2 => repeat (first | exact HB1.out | apply below_alloc | apply pw_below_drewN | apply below_drew1)); rintro e w2 ⟨rfl, hk, hb⟩; have HK2 := Aside0.mk hk; have HB2 := Aside0.mk hb; clear hk hb)
      refine ⟨rfl, PEnd.of_err ⟨rfl, ?_, ?_⟩ HR.out.symm⟩
      · exact KeepBut.trans HK1.out HK2.out (.inl rfl)
      · exact HB2.out
    | ok r1 =>
      obtain ⟨x, i2⟩ := r1
      rw [ht] at hA
      simp only at hA
      have hkl : i2 ≤ c.T.length := (termP_le ht).2
      have HI2 := Aside0.mk hkl
      have H := Aside0.mk ht
      clear ht
      go_upto_region 6 with (first | (go_at_call 74; (with_reducible refine (term_ok (w0 := w0) (s := s) (L := L) (q := q) H.out ?t1 HI1.out ?t2).mono ?_); (case t1 => repeat (first | exact HP1.out | apply IsP.alloc | apply IsP.drewN | apply IsP.drew)); (case t2 => repeat (first | exact HB1.out | apply below_alloc | apply pw_below_drewN | apply below_drew1)); rintro e w2 ⟨rfl, hp, hk, hb⟩; have HV2 := Aside0.mk (Kd.R_keep HV.out hk (fun _ h => h)); have HK2 := Aside0.mk (KeepBut.trans HK1.out hk (.inl rfl)); have HB2 := Aside0.mk hb; have HP2 := Aside0.mk hp; clear hp hk hb HV HK1 HB1 HP1) | (at_builtin; refine Kd.R_append k61 w.heap.size rfl (.tmp 14) (.tmp 17) 24 61 (.agg #[.bool false, .string ⟨#[]⟩]) 24 rfl Try.underlying24 info61 rfl (by decide) (by omega) (.slice A acc.length cc) acc x [.bool x.f0, .string x.f1] (fun k => k ≠ g) (fun _ => False) rfl rfl ?aP (fun _ hk => hk.elim) ?aF ?aO (Below.refl _ _) ?aS ?aL ?_; (case aP => exact k61_mkM _ _ _ _); (case aF => intro k hk; have := HP2.out.lt; omega); (case aO => exact HV2.out); (case aS => exact HK2.out.1); (case aL => omega); intro v3 w3 ho hb hg hat; have HP3 := Aside0.mk (HP2.out.grown hg (row_base HV2.out) hgl HO.out); have HK3 := Aside0.mk (KeepBut.trans HK2.out (KeepBut.of_grown hg g) (Kd.R_base2 HV2.out)); have HB3 := Aside0.mk (below_weaken HB2.out hge hb); have HV3 := Aside0.mk ho; clear ho hb hg hat HP2 HK2 HB2 HV2; obtain ⟨A3, c3, rfl⟩ := Kd.R_slice HV3.out))
      have hl3 : (acc ++ [x]).length = acc.length + 1 := by simp
      obtain ⟨p0, p1, p2, p3, p4, p5, p6, p7, pf⟩ := pc HP3.out.1
      clear p0 p1 p2 p3 p4 p5 p6
      by_cases hgo : (c.at_ i2).k = 10 ∧ m ≠ 0
      · rw [if_pos hgo] at hA
        have HR := Aside0.mk hA
        have hilt : i2 < c.T.length := lt_of_kind (by omega)
        have b10 : (((c.at_ i2).k : Int) == 10) = true := beq_iff_eq.2 (by omega)
        have bl : decide ((acc.length : Int) + 1 < 16) = true := decide_eq_true (by omega)
        clear hA hl3
        go_wp2_with (go_at_call 54; (with_reducible refine (kind_calls (w0 := w0) (s := s) (L := L) (q := q) ?k1 HI2.out).mono ?_); (case k1 => repeat (first | exact HP3.out | apply IsP.alloc | apply IsP.drewN | apply IsP.drew)); rintro e wk ⟨rfl, ⟨nd, rfl⟩⟩)
        go_step3
        show J 0 _ _
        refine hJ.out 0 (16 - (acc ++ [x]).length) _ _ (by simp; omega) ⟨i2 + 1, acc ++ [x], _, ex_frame _ (AF g _) rfl, rfl, rfl, by simp; omega, by omega, ?_, ?_, ?_, ?_, ?_⟩
        · exact ⟨by rw [show 16 - (acc ++ [x]).length = m from by simp; omega]; exact HR.out⟩
        · exact ⟨by rw [show acc.length + 1 = (acc ++ [x]).length from by simp]; exact Kd.R_far (p := ⟨g, 7, none⟩) (Kd.R_drewN HV3.out nd) (fun _ h => h) _⟩
        · exact ⟨(HP3.out.drewN nd).step (i2 + 1) _ (by omega)⟩
        · exact ⟨KeepBut.set_ (keep_drewN HK3.out nd) 7 _⟩
        · exact ⟨(pw_below_drewN HB3.out nd).setCell HP.out.ge _⟩
      · rw [if_neg hgo] at hA
        by_cases hm0 : m = 0
        · rw [if_pos hm0] at hA
          have bl : decide ((acc.length : Int) + 1 < 16) = false := decide_eq_false (by omega)
          have be : ((acc.length : Int) + 1 == 16) = true := beq_iff_eq.2 (by omega)
          cases ht : takeP c i2 [9] with
          | error a =>
            rw [ht] at hA
            simp only at hA
            have HR := Aside0.mk hA
            have HT := Aside0.mk ht
            clear hA ht hgo
            by_cases hk : (c.at_ i2).k = 10
            · have b10 : (((c.at_ i2).k : Int) == 10) = true := beq_iff_eq.2 (by omega)
              clear hk hl3 hm0
              go_wp2_with (first | (go_at_call 54; (with_reducible refine (kind_calls (w0 := w0) (s := s) (L := L) (q := q) ?k1 HI2.out).mono ?_); (case k1 => repeat (first | exact HP3.out | apply IsP.alloc | apply IsP.drewN | apply IsP.drew)); rintro e wk ⟨rfl, ⟨nd, rfl⟩⟩) | (go_at_call 30; (with_reducible refine (take_err (w0 := w0) (s := s) (L := L) (q := q) (h := HT.out) ?h1 ?h2 ?h3 ?h4 ?h5 ?h6).mono ?_); (case h1 => repeat (first | exact HP3.out | apply IsP.alloc | apply IsP.drewN | apply IsP.drew)); (case h2 => omega); (case h3 => repeat (first | exact HB3.out | apply below_alloc | apply pw_below_drewN | apply below_drew1)); (case h4 => repeat (first | exact Wants.of_new (by simp) rfl rfl | apply Wants.drewN)); (case h5 => decide); (case h6 => decide); rintro e w' ⟨rfl, hk, hb⟩; have HK4 := Aside0.mk hk; have HB4 := Aside0.mk hb; clear hk hb))
              refine ⟨rfl, PEnd.of_err ⟨rfl, KeepBut.trans (KeepBut.trans HK3.out (KeepBut.of_below ((pw_below_drewN (Below.refl _ _) nd).alloc (by simp) _) g none) (.inl rfl)) HK4.out (.inl rfl), HB4.out⟩ HR.out.symm⟩
            · have b10 : (((c.at_ i2).k : Int) == 10) = false := beq_eq_false_iff_ne.2 (by omega)
              clear hk hl3 hm0
              go_wp2_with (first | (go_at_call 54; (with_reducible refine (kind_calls (w0 := w0) (s := s) (L := L) (q := q) ?k1 HI2.out).mono ?_); (case k1 => repeat (first | exact HP3.out | apply IsP.alloc | apply IsP.drewN | apply IsP.drew)); rintro e wk ⟨rfl, ⟨nd, rfl⟩⟩) | (go_at_call 30; (with_reducible refine (take_err (w0 := w0) (s := s) (L := L) (q := q) (h := HT.out) ?h1 ?h2 ?h3 ?h4 ?h5 ?h6).mono ?_); (case h1 => repeat (first | exact HP3.out | apply IsP.alloc | apply IsP.drewN | apply IsP.drew)); (case h2 => omega); (case h3 => repeat (first | exact HB3.out | apply below_alloc | apply pw_below_drewN | apply below_drew1)); (case h4 => repeat (first | exact Wants.of_new (by simp) rfl rfl | apply Wants.drewN)); (case h5 => decide); (case h6 => decide); rintro e w' ⟨rfl, hk, hb⟩; have HK4 := Aside0.mk hk; have HB4 := Aside0.mk hb; clear hk hb))
              refine ⟨rfl, PEnd.of_err ⟨rfl, KeepBut.trans (KeepBut.trans HK3.out (KeepBut.of_below ((pw_below_drewN (Below.refl _ _) nd).alloc (by simp) _) g none) (.inl rfl)) HK4.out (.inl rfl), HB4.out⟩ HR.out.symm⟩
          | ok r2 =>
            obtain ⟨t, i3⟩ := r2
            rw [ht] at hA
            simp only at hA
            have HR := Aside0.mk hA
            have HT := Aside0.mk ht
            clear hA ht hgo
            by_cases hk : (c.at_ i2).k = 10
            · have b10 : (((c.at_ i2).k : Int) == 10) = true := beq_iff_eq.2 (by omega)
              clear hk hl3 hm0
              go_wp2_with (first | (go_at_call 54; (with_reducible refine (kind_calls (w0 := w0) (s := s) (L := L) (q := q) ?k1 HI2.out).mono ?_); (case k1 => repeat (first | exact HP3.out | apply IsP.alloc | apply IsP.drewN | apply IsP.drew)); rintro e wk ⟨rfl, ⟨nd, rfl⟩⟩) | (go_at_call 30; (with_reducible refine (take_ok (w0 := w0) (s := s) (L := L) (q := q) (h := HT.out) ?h1 ?h2 ?h3 ?h4 ?h5 ?h6).mono ?_); (case h1 => repeat (first | exact HP3.out | apply IsP.alloc | apply IsP.drewN | apply IsP.drew)); (case h2 => omega); (case h3 => repeat (first | exact HB3.out | apply below_alloc | apply pw_below_drewN | apply below_drew1)); (case h4 => repeat (first | exact Wants.of_new (by simp) rfl rfl | apply Wants.drewN)); (case h5 => decide); (case h6 => decide); rintro e w' ⟨rfl, hp, hk, hb⟩; have HP4 := Aside0.mk hp; have HV4 := Aside0.mk (Kd.R_keep (Kd.R_alloc (Kd.R_drewN HV3.out nd) _) hk (fun _ h => h)); have HK4 := Aside0.mk hk; have HB4 := Aside0.mk hb; clear hk hb hp))
              rw [jumps_ret]
              go_ret
              exact PEnd.of_ok ⟨_, rfl, Kd.R_mono (show Kd.R k61 61 _ w.heap.size (fun k => k ≠ g) (.slice A3 (acc.length + 1) c3) (acc ++ [x]) from by rw [show acc.length + 1 = (acc ++ [x]).length from by simp]; exact HV4.out) (fun _ _ => trivial), HP4.out, KeepBut.trans (KeepBut.trans HK3.out (KeepBut.of_below ((pw_below_drewN (Below.refl _ _) nd).alloc (by simp) _) g none) (.inl rfl)) HK4.out (.inl rfl), HB4.out⟩ HR.out.symm
            · have b10 : (((c.at_ i2).k : Int) == 10) = false := beq_eq_false_iff_ne.2 (by omega)
              clear hk hl3 hm0
              go_wp2_with (first | (go_at_call 54; (with_reducible refine (kind_calls (w0 := w0) (s := s) (L := L) (q := q) ?k1 HI2.out).mono ?_); (case k1 => repeat (first | exact HP3.out | apply IsP.alloc | apply IsP.drewN | apply IsP.drew)); rintro e wk ⟨rfl, ⟨nd, rfl⟩⟩) | (go_at_call 30; (with_reducible refine (take_ok (w0 := w0) (s := s) (L := L) (q := q) (h := HT.out) ?h1 ?h2 ?h3 ?h4 ?h5 ?h6).mono ?_); (case h1 => repeat (first | exact HP3.out | apply IsP.alloc | apply IsP.drewN | apply IsP.drew)); (case h2 => omega); (case h3 => repeat (first | exact HB3.out | apply below_alloc | apply pw_below_drewN | apply below_drew1)); (case h4 => repeat (first | exact Wants.of_new (by simp) rfl rfl | apply Wants.drewN)); (case h5 => decide); (case h6 => decide); rintro e w' ⟨rfl, hp, hk, hb⟩; have HP4 := Aside0.mk hp; have HV4 := Aside0.mk (Kd.R_keep (Kd.R_alloc (Kd.R_drewN HV3.out nd) _) hk (fun _ h => h)); have HK4 := Aside0.mk hk; have HB4 := Aside0.mk hb; clear hk hb hp))
              rw [jumps_ret]
              go_ret
              exact PEnd.of_ok ⟨_, rfl, Kd.R_mono (show Kd.R k61 61 _ w.heap.size (fun k => k ≠ g) (.slice A3 (acc.length + 1) c3) (acc ++ [x]) from by rw [show acc.length + 1 = (acc ++ [x]).length from by simp]; exact HV4.out) (fun _ _ => trivial), HP4.out, KeepBut.trans (KeepBut.trans HK3.out (KeepBut.of_below ((pw_below_drewN (Below.refl _ _) nd).alloc (by simp) _) g none) (.inl rfl)) HK4.out (.inl rfl), HB4.out⟩ HR.out.symm
        · rw [if_neg hm0] at hA
          have bl : decide ((acc.length : Int) + 1 < 16) = true := decide_eq_true (by omega)
          have be : ((acc.length : Int) + 1 == 16) = false := beq_eq_false_iff_ne.2 (by omega)
          have hk : (c.at_ i2).k ≠ 10 := fun e => hgo ⟨e, hm0⟩
          have b10 : (((c.at_ i2).k : Int) == 10) = false := beq_eq_false_iff_ne.2 (by omega)
          cases ht : takeP c i2 [9, 10] with
          | error a =>
            rw [ht] at hA
            simp only at hA
            have HR := Aside0.mk hA
            have HT := Aside0.mk ht
            clear hA ht hgo hk hl3 hm0
            go_wp2_with (first | (go_at_call 54; (with_reducible refine (kind_calls (w0 := w0) (s := s) (L := L) (q := q) ?k1 HI2.out).mono ?_); (case k1 => repeat (first | exact HP3.out | apply IsP.alloc | apply IsP.drewN | apply IsP.drew)); rintro e wk ⟨rfl, ⟨nd, rfl⟩⟩) | (go_at_call 30; (with_reducible refine (take_err (w0 := w0) (s := s) (L := L) (q := q) (h := HT.out) ?h1 ?h2 ?h3 ?h4 ?h5 ?h6).mono ?_); (case h1 => repeat (first | exact HP3.out | apply IsP.alloc | apply IsP.drewN | apply IsP.drew)); (case h2 => omega); (case h3 => repeat (first | exact HB3.out | apply below_alloc | apply pw_below_drewN | apply below_drew1)); (case h4 => repeat (first | exact Wants.of_new (by simp) rfl rfl | apply Wants.drewN)); (case h5 => decide); (case h6 => decide); rintro e w' ⟨rfl, hk, hb⟩; have HK4 := Aside0.mk hk; have HB4 := Aside0.mk hb; clear hk hb))
            refine ⟨rfl, PEnd.of_err ⟨rfl, KeepBut.trans (KeepBut.trans HK3.out (KeepBut.of_below ((pw_below_drewN (Below.refl _ _) nd).alloc (by simp) _) g none) (.inl rfl)) HK4.out (.inl rfl), HB4.out⟩ HR.out.symm⟩
          | ok r2 =>
            obtain ⟨t, i3⟩ := r2
            rw [ht] at hA
            simp only at hA
            have HR := Aside0.mk hA
            have HT := Aside0.mk ht
            clear hA ht hgo hk hl3 hm0
            go_wp2_with (first | (go_at_call 54; (with_reducible refine (kind_calls (w0 := w0) (s := s) (L := L) (q := q) ?k1 HI2.out).mono ?_); (case k1 => repeat (first | exact HP3.out | apply IsP.alloc | apply IsP.drewN | apply IsP.drew)); rintro e wk ⟨rfl, ⟨nd, rfl⟩⟩) | (go_at_call 30; (with_reducible refine (take_ok (w0 := w0) (s := s) (L := L) (q := q) (h := HT.out) ?h1 ?h2 ?h3 ?h4 ?h5 ?h6).mono ?_); (case h1 => repeat (first | exact HP3.out | apply IsP.alloc | apply IsP.drewN | apply IsP.drew)); (case h2 => omega); (case h3 => repeat (first | exact HB3.out | apply below_alloc | apply pw_below_drewN | apply below_drew1)); (case h4 => repeat (first | exact Wants.of_new (by simp) rfl rfl | apply Wants.drewN)); (case h5 => decide); (case h6 => decide); rintro e w' ⟨rfl, hp, hk, hb⟩; have HP4 := Aside0.mk hp; have HV4 := Aside0.mk (Kd.R_keep (Kd.R_alloc (Kd.R_drewN HV3.out nd) _) hk (fun _ h => h)); have HK4 := Aside0.mk hk; have HB4 := Aside0.mk hb; clear hk hb hp))
            rw [jumps_ret]
            go_ret
            exact PEnd.of_ok ⟨_, rfl, Kd.R_mono (show Kd.R k61 61 _ w.heap.size (fun k => k ≠ g) (.slice A3 (acc.length + 1) c3) (acc ++ [x]) from by rw [show acc.length + 1 = (acc ++ [x]).length from by simp]; exact HV4.out) (fun _ _ => trivial), HP4.out, KeepBut.trans (KeepBut.trans HK3.out (KeepBut.of_below ((pw_below_drewN (Below.refl _ _) nd).alloc (by simp) _) g none) (.inl rfl)) HK4.out (.inl rfl), HB4.out⟩ HR.out.symm
end Go.Proofs.Ytdodajpiidkglaa.K

namespace Go.Proofs.Ytdodajpiidkglaa.K
open Go.RowKit Go.Proofs.YtdodajpiidkglaaW.PrintWords Go.Proofs.YtdodajpiidkglaaW.PrintLast Go.Proofs.YtdodajpiidkglaaW.PrintMore Go.Proofs.Ytdodajpiidkglaa.PAll
set_option linter.unusedVariables false
set_option linter.unusedSimpArgs false

section
variable {w0 w W : World} {g b : Nat} {s : ByteArray} {L : Value} {c : Src} {i : Nat} {q : List Value}
theorem keep_size (h : KeepBut w W g none) : w.heap.size ≤ W.heap.size := h.1
theorem IsP.step1 (h : IsP w0 W g s L c i q) : IsP w0 (W.setCell ⟨g, 7, none⟩ (.int .i64 ((i : Int) + 1))) g s L c (i + 1) q := h.step (i + 1) _ (by omega)
theorem isP7 (h : IsP w0 W g s L c i q) (hb : b ≠ g) (hl : ∀ k, L.ownBlock = some k → k ≠ b) (u0 u1 u2 u3 u4 u5 u6 : Value) : IsP w0 (((((((W.setCell ⟨b, 0, none⟩ u0).setCell ⟨b, 1, none⟩ u1).setCell ⟨b, 2, none⟩ u2).setCell ⟨b, 3, none⟩ u3).setCell ⟨b, 4, none⟩ u4).setCell ⟨b, 5, none⟩ u5).setCell ⟨b, 6, none⟩ u6) g s L c i q :=
  ((((((h.far_ (p := ⟨b, 0, none⟩) hb hl _).far_ (p := ⟨b, 1, none⟩) hb hl _).far_ (p := ⟨b, 2, none⟩) hb hl _).far_ (p := ⟨b, 3, none⟩) hb hl _).far_ (p := ⟨b, 4, none⟩) hb hl _).far_ (p := ⟨b, 5, none⟩) hb hl _).far_ (p := ⟨b, 6, none⟩) hb hl _
theorem keep7 (h : KeepBut w W g none) (hb : w.heap.size ≤ b) (u0 u1 u2 u3 u4 u5 u6 : Value) : KeepBut w (((((((W.setCell ⟨b, 0, none⟩ u0).setCell ⟨b, 1, none⟩ u1).setCell ⟨b, 2, none⟩ u2).setCell ⟨b, 3, none⟩ u3).setCell ⟨b, 4, none⟩ u4).setCell ⟨b, 5, none⟩ u5).setCell ⟨b, 6, none⟩ u6) g none :=
  keep_new (keep_new (keep_new (keep_new (keep_new (keep_new (keep_new h hb _) hb _) hb _) hb _) hb _) hb _) hb _
theorem below7 (h : Below w0.heap.size w0 W) (hb : w0.heap.size ≤ b) (u0 u1 u2 u3 u4 u5 u6 : Value) : Below w0.heap.size w0 (((((((W.setCell ⟨b, 0, none⟩ u0).setCell ⟨b, 1, none⟩ u1).setCell ⟨b, 2, none⟩ u2).setCell ⟨b, 3, none⟩ u3).setCell ⟨b, 4, none⟩ u4).setCell ⟨b, 5, none⟩ u5).setCell ⟨b, 6, none⟩ u6) :=
  ((((((h.setCell hb _).setCell hb _).setCell hb _).setCell hb _).setCell hb _).setCell hb _).setCell hb _
theorem blk7 {t : Nat} {c0 c1 c2 c3 c4 c5 c6 : Value} (h : W.heap[b]? = some (.cells #[c0, c1, c2, c3, c4, c5, c6] t (0, 0))) (u0 u1 u2 u3 u4 u5 u6 : Value) : (((((((W.setCell ⟨b, 0, none⟩ u0).setCell ⟨b, 1, none⟩ u1).setCell ⟨b, 2, none⟩ u2).setCell ⟨b, 3, none⟩ u3).setCell ⟨b, 4, none⟩ u4).setCell ⟨b, 5, none⟩ u5).setCell ⟨b, 6, none⟩ u6).heap[b]? = some (.cells #[u0, u1, u2, u3, u4, u5, u6] t (0, 0)) :=
  blk_put (cs' := #[u0, u1, u2, u3, u4, u5, u6]) (blk_put (cs' := #[u0, u1, u2, u3, u4, u5, c6]) (blk_put (cs' := #[u0, u1, u2, u3, u4, c5, c6]) (blk_put (cs' := #[u0, u1, u2, u3, c4, c5, c6]) (blk_put (cs' := #[u0, u1, u2, c3, c4, c5, c6]) (blk_put (cs' := #[u0, u1, c2, c3, c4, c5, c6]) (blk_put (cs' := #[u0, c1, c2, c3, c4, c5, c6]) h 0 u0 rfl) 1 u1 rfl) 2 u2 rfl) 3 u3 rfl) 4 u4 rfl) 5 u5 rfl) 6 u6 rfl
theorem far7 {k t : Nat} {cs : Array Value} (h : W.heap[k]? = some (.cells cs t (0, 0))) (hk : k ≠ b) (u0 u1 u2 u3 u4 u5 u6 : Value) : (((((((W.setCell ⟨b, 0, none⟩ u0).setCell ⟨b, 1, none⟩ u1).setCell ⟨b, 2, none⟩ u2).setCell ⟨b, 3, none⟩ u3).setCell ⟨b, 4, none⟩ u4).setCell ⟨b, 5, none⟩ u5).setCell ⟨b, 6, none⟩ u6).heap[k]? = some (.cells cs t (0, 0)) :=
  blk_far (p := ⟨b, 6, none⟩) (blk_far (p := ⟨b, 5, none⟩) (blk_far (p := ⟨b, 4, none⟩) (blk_far (p := ⟨b, 3, none⟩) (blk_far (p := ⟨b, 2, none⟩) (blk_far (p := ⟨b, 1, none⟩) (blk_far (p := ⟨b, 0, none⟩) h hk _) hk _) hk _) hk _) hk _) hk _) hk _
theorem R7 {α : Type} {d : Kd α} {e base : Nat} {ok : Nat → Prop} {v : Value} {xs : List α} (h : d.R e W base ok v xs) (hb : ∀ k, ok k → k ≠ b) (u0 u1 u2 u3 u4 u5 u6 : Value) : d.R e (((((((W.setCell ⟨b, 0, none⟩ u0).setCell ⟨b, 1, none⟩ u1).setCell ⟨b, 2, none⟩ u2).setCell ⟨b, 3, none⟩ u3).setCell ⟨b, 4, none⟩ u4).setCell ⟨b, 5, none⟩ u5).setCell ⟨b, 6, none⟩ u6) base ok v xs :=
  Kd.R_far (p := ⟨b, 6, none⟩) (Kd.R_far (p := ⟨b, 5, none⟩) (Kd.R_far (p := ⟨b, 4, none⟩) (Kd.R_far (p := ⟨b, 3, none⟩) (Kd.R_far (p := ⟨b, 2, none⟩) (Kd.R_far (p := ⟨b, 1, none⟩) (Kd.R_far (p := ⟨b, 0, none⟩) h hb _) hb _) hb _) hb _) hb _) hb _) hb _
theorem cells7 {t : Nat} {c0 c1 c2 c3 c4 c5 c6 : Value} (h : W.heap[b]? = some (.cells #[c0, c1, c2, c3, c4, c5, c6] t (0, 0))) :
    W.cell? ⟨b, 0, none⟩ = some c0 ∧ W.cell? ⟨b, 1, none⟩ = some c1 ∧ W.cell? ⟨b, 2, none⟩ = some c2 ∧ W.cell? ⟨b, 3, none⟩ = some c3 ∧ W.cell? ⟨b, 4, none⟩ = some c4 ∧ W.cell? ⟨b, 5, none⟩ = some c5 ∧ W.cell? ⟨b, 6, none⟩ = some c6 ∧
    W.frozen? ⟨b, 0, none⟩ = false ∧ W.frozen? ⟨b, 1, none⟩ = false ∧ W.frozen? ⟨b, 2, none⟩ = false ∧ W.frozen? ⟨b, 3, none⟩ = false ∧ W.frozen? ⟨b, 4, none⟩ = false ∧ W.frozen? ⟨b, 5, none⟩ = false ∧ W.frozen? ⟨b, 6, none⟩ = false :=
  ⟨(blk_cell h 0).trans rfl, (blk_cell h 1).trans rfl, (blk_cell h 2).trans rfl, (blk_cell h 3).trans rfl, (blk_cell h 4).trans rfl, (blk_cell h 5).trans rfl, (blk_cell h 6).trans rfl, blk_frozen h 0, blk_frozen h 1, blk_frozen h 2, blk_frozen h 3, blk_frozen h 4, blk_frozen h 5, blk_frozen h 6⟩
end
theorem field71_1 (a b c d : Value) (w : World) : (Instr.field 71 (.agg #[a, b, c, d]) 1).run Try.prog w = .ok b w := by kernel_rfl
theorem info63s : (Try.prog.info? 63).map (·.size) = some 7 := by kernel_rfl

theorem args_ok {w0 w : World} {g : Nat} {s : ByteArray} {L : Value} {c : Src} {i : Nat} {q : List Value} {l : List S61} {j : Nat} (h : argsP c i = .ok (l, j)) (hp : IsP w0 w g s L c i q) (hi : i ≤ c.T.length) (hB : Below w0.heap.size w0 w) :
    Calls Try.prog 53 #[.pointer (some ⟨g, 0, none⟩)] w fun e w' => ∃ A cc, e = .returned (.slice A l.length cc) ∧ Kd.R k61 61 w' w.heap.size (fun _ => True) (.slice A l.length cc) l ∧ IsP w0 w' g s L c j q ∧ KeepBut w w' g none ∧ Below w0.heap.size w0 w' :=
  (args_calls hp hi hB).mono fun e w' hpost => by
    obtain ⟨v, h1, h2, h3, h4, h5⟩ := PEnd.ok hpost h
    obtain ⟨A, cc, rfl⟩ := Kd.R_slice h2
    exact ⟨A, cc, h1, h2, h3, h4, h5⟩
theorem args_err {w0 w : World} {g : Nat} {s : ByteArray} {L : Value} {c : Src} {i : Nat} {q : List Value} {a : Nat} (h : argsP c i = .error a) (hp : IsP w0 w g s L c i q) (hi : i ≤ c.T.length) (hB : Below w0.heap.size w0 w) :
    Calls Try.prog 53 #[.pointer (some ⟨g, 0, none⟩)] w (ErrEnd w0 w g a) :=
  (args_calls hp hi hB).mono fun e w' hpost => PEnd.err hpost h

/-- A literal as a value: its terms in blocks from b on. -/
def litR (b : Nat) (W : World) (x : S63) (v : Value) : Prop :=
  ∃ A cc, v = .agg #[.int .i64 x.f0, .string x.f1.f0, .slice A x.f1.f1.length cc, .bool x.f2.f0, .string x.f2.f1, .bool x.f3.f0, .string x.f3.f1] ∧ Kd.R k61 61 W b (fun _ => True) (.slice A x.f1.f1.length cc) x.f1.f1

def LitPost (w0 w : World) (g : Nat) (s : ByteArray) (L : Value) (c : Src) (i : Nat) (q : List Value) (e : Ending) (w' : World) : Prop := PEnd w0 w g s L c q (litR w.heap.size) (literalP c i) e w'
set_option maxHeartbeats 8000000 in
set_option maxRecDepth 100000 in
theorem literal_not {w0 w : World} {g : Nat} {s : ByteArray} {L : Value} {c : Src} {i : Nat} {q : List Value} (hp : IsP w0 w g s L c i q) (hi : i ≤ c.T.length) (hB : Below w0.heap.size w0 w) (h7 : (c.at_ i).k = 7) :
    Calls Try.prog 55 #[.pointer (some ⟨g, 0, none⟩)] w (LitPost w0 w g s L c i q) := by
  have hgl := hp.lt
  have hol := Aside0.mk hp.own_lt
  have HGE := Aside0.mk hp.ge
  have hge : w0.heap.size ≤ w.heap.size := hB.size
  have hne : w.heap.size ≠ g := Ne.symm (Nat.ne_of_lt hgl)
  have HP := Aside0.mk (hp.alloc (.cells #[.int .i64 0, .string ⟨#[]⟩, .slice none 0 0, .bool false, .string ⟨#[]⟩, .bool false, .string ⟨#[]⟩] 63))
  have HZ := Aside0.mk (blk_new w (.cells #[.int .i64 0, .string ⟨#[]⟩, .slice none 0 0, .bool false, .string ⟨#[]⟩, .bool false, .string ⟨#[]⟩] 63))
  have HK := Aside0.mk (keep_alloc (KeepBut.refl w g none) (.cells #[.int .i64 0, .string ⟨#[]⟩, .slice none 0 0, .bool false, .string ⟨#[]⟩, .bool false, .string ⟨#[]⟩] 63))
  have HB := Aside0.mk (below_alloc hB (.cells #[.int .i64 0, .string ⟨#[]⟩, .slice none 0 0, .bool false, .string ⟨#[]⟩, .bool false, .string ⟨#[]⟩] 63))
  have HI := Aside0.mk hi
  have hlen := hp.2.2.2
  obtain ⟨p0, p1, p2, p3, p4, p5, p6, p7, pf⟩ := pc HP.out.1
  clear hp hB p0 p2 p3 p4 p5 p6

  have hilt : i < c.T.length := lt_of_kind (by omega)
  have HI2 := Aside0.mk (show i + 1 ≤ c.T.length by omega)
  have hL : literalP c i = match atomP c (i + 1) with | .error a => .error a | .ok (x, i') => .ok (⟨2, x, z61, z61⟩, i') := by unfold literalP; rw [if_pos h7]; rfl
  have b7 : (((c.at_ i).k : Int) == 7) = true := beq_iff_eq.2 (by omega)
  clear h7
  unfold atomP at hL
  cases ht : takeP c (i + 1) [1] with
  | error a =>
    rw [ht] at hL
    have HR := Aside0.mk hL
    have HT := Aside0.mk ht
    clear hL ht
    go_enter Try.func55, Try.ntmps55
    go_wp2_with (first | (go_at_call 54; (with_reducible refine (kind_calls (w0 := w0) (s := s) (L := L) (q := q) ?k1 HI.out).mono ?_); (case k1 => repeat (first | exact HP.out | apply IsP.alloc | apply IsP.drewN | apply IsP.drew | apply IsP.step1)); rintro e wk ⟨rfl, ⟨nd, rfl⟩⟩) | (go_at_call 30; (with_reducible refine (take_err (w0 := w0) (s := s) (L := L) (q := q) (h := HT.out) ?h1 ?h2 ?h3 ?h4 ?h5 ?h6).mono ?_); (case h1 => repeat (first | exact HP.out | apply IsP.alloc | apply IsP.drewN | apply IsP.drew | apply IsP.step1)); (case h2 => exact HI2.out); (case h3 => repeat (first | exact HB.out | apply below_alloc | apply pw_below_drewN | apply below_drew1 | refine below_set ?_ HGE.out)); (case h4 => repeat (first | exact Wants.of_new (by simp) rfl rfl | apply Wants.drewN)); (case h5 => decide); (case h6 => decide); rintro e w2 ⟨rfl, hk, hb⟩; have HKE := Aside0.mk (KeepBut.trans (by repeat (first | exact HK.out | apply KeepBut.set_ | apply keep_drewN | apply keep_drew | apply keep_alloc)) hk (.inl rfl)); have HBE := Aside0.mk hb; clear hk hb))
    exact ⟨rfl, PEnd.of_err ⟨rfl, HKE.out, HBE.out⟩ HR.out⟩
  | ok r =>
    obtain ⟨t, i2⟩ := r
    rw [ht] at hL
    simp only at hL
    have hi2 := (takeP_lt (by decide) ht).2.1
    have HI3 := Aside0.mk hi2
    have HT := Aside0.mk ht
    clear ht
    have hfd := fun w => field71_1 (.int .i64 (t.k : Int)) (.string t.t) (.int .i64 (t.a : Int)) (.int .i64 (t.e : Int)) w
    cases ha : argsP c i2 with
    | error a =>
      rw [ha] at hL
      have HR := Aside0.mk hL
      have HA := Aside0.mk ha
      clear hL ha
      go_enter Try.func55, Try.ntmps55
      go_wp2_with (first | (go_at_call 54; (with_reducible refine (kind_calls (w0 := w0) (s := s) (L := L) (q := q) ?k1 HI.out).mono ?_); (case k1 => repeat (first | exact HP.out | apply IsP.alloc | apply IsP.drewN | apply IsP.drew | apply IsP.step1)); rintro e wk ⟨rfl, ⟨nd, rfl⟩⟩) | (go_at_call 30; (with_reducible refine (take_ok (w0 := w0) (s := s) (L := L) (q := q) (h := HT.out) ?h1 ?h2 ?h3 ?h4 ?h5 ?h6).mono ?_); (case h1 => repeat (first | exact HP.out | apply IsP.alloc | apply IsP.drewN | apply IsP.drew | apply IsP.step1)); (case h2 => exact HI2.out); (case h3 => repeat (first | exact HB.out | apply below_alloc | apply pw_below_drewN | apply below_drew1 | refine below_set ?_ HGE.out)); (case h4 => repeat (first | exact Wants.of_new (by simp) rfl rfl | apply Wants.drewN)); (case h5 => decide); (case h6 => decide); rintro e w2 ⟨rfl, hp, hk, hb⟩; have nz := Aside0.mk (KeepBut.blk (o := .cells #[.int .i64 0, .string ⟨#[]⟩, .slice none 0 0, .bool false, .string ⟨#[]⟩, .bool false, .string ⟨#[]⟩] 63 (0, 0)) hk (by repeat (first | exact HZ.out | refine blk_alloc ?_ _ | refine blk_drewN ?_ _ | refine blk_drew ?_ | refine blk_far ?_ hne _)) hne (by simp)); have nk := Aside0.mk (KeepBut.trans (by repeat (first | exact HK.out | apply KeepBut.set_ | apply keep_drewN | apply keep_drew | apply keep_alloc)) hk (.inl rfl)); have nb := Aside0.mk hb; have np := Aside0.mk hp;  clear HZ HK HB HP hk hb hp; have HZ := nz; have HK := nk; have HB := nb; have HP := np; clear nz nk nb np) | (go_at_call 53; (with_reducible refine (args_err (w0 := w0) (s := s) (L := L) (q := q) HA.out ?a1 HI3.out ?a2).mono ?_); (case a1 => repeat (first | exact HP.out | apply IsP.alloc | apply IsP.drewN | apply IsP.drew | apply IsP.step1)); (case a2 => repeat (first | exact HB.out | apply below_alloc | apply pw_below_drewN | apply below_drew1 | refine below_set ?_ HGE.out)); rintro e w2 ⟨rfl, hk, hb⟩; have HKE := Aside0.mk (KeepBut.trans (by repeat (first | exact HK.out | apply KeepBut.set_ | apply keep_drewN | apply keep_drew | apply keep_alloc)) hk (.inl rfl)); have HBE := Aside0.mk hb; clear hk hb))
      exact ⟨rfl, PEnd.of_err ⟨rfl, HKE.out, HBE.out⟩ HR.out⟩
    | ok r2 =>
      obtain ⟨l, i3⟩ := r2
      rw [ha] at hL
      have HR := Aside0.mk hL
      have HA := Aside0.mk ha
      clear hL ha
      go_enter Try.func55, Try.ntmps55
      go_wp2_with (first | (go_at_call 54; (with_reducible refine (kind_calls (w0 := w0) (s := s) (L := L) (q := q) ?k1 HI.out).mono ?_); (case k1 => repeat (first | exact HP.out | apply IsP.alloc | apply IsP.drewN | apply IsP.drew | apply IsP.step1)); rintro e wk ⟨rfl, ⟨nd, rfl⟩⟩) | (go_at_call 30; (with_reducible refine (take_ok (w0 := w0) (s := s) (L := L) (q := q) (h := HT.out) ?h1 ?h2 ?h3 ?h4 ?h5 ?h6).mono ?_); (case h1 => repeat (first | exact HP.out | apply IsP.alloc | apply IsP.drewN | apply IsP.drew | apply IsP.step1)); (case h2 => exact HI2.out); (case h3 => repeat (first | exact HB.out | apply below_alloc | apply pw_below_drewN | apply below_drew1 | refine below_set ?_ HGE.out)); (case h4 => repeat (first | exact Wants.of_new (by simp) rfl rfl | apply Wants.drewN)); (case h5 => decide); (case h6 => decide); rintro e w2 ⟨rfl, hp, hk, hb⟩; have nz := Aside0.mk (KeepBut.blk (o := .cells #[.int .i64 0, .string ⟨#[]⟩, .slice none 0 0, .bool false, .string ⟨#[]⟩, .bool false, .string ⟨#[]⟩] 63 (0, 0)) hk (by repeat (first | exact HZ.out | refine blk_alloc ?_ _ | refine blk_drewN ?_ _ | refine blk_drew ?_ | refine blk_far ?_ hne _)) hne (by simp)); have nk := Aside0.mk (KeepBut.trans (by repeat (first | exact HK.out | apply KeepBut.set_ | apply keep_drewN | apply keep_drew | apply keep_alloc)) hk (.inl rfl)); have nb := Aside0.mk hb; have np := Aside0.mk hp;  clear HZ HK HB HP hk hb hp; have HZ := nz; have HK := nk; have HB := nb; have HP := np; clear nz nk nb np) | (go_at_call 53; (with_reducible refine (args_ok (w0 := w0) (s := s) (L := L) (q := q) HA.out ?a1 HI3.out ?a2).mono ?_); (case a1 => repeat (first | exact HP.out | apply IsP.alloc | apply IsP.drewN | apply IsP.drew | apply IsP.step1)); (case a2 => repeat (first | exact HB.out | apply below_alloc | apply pw_below_drewN | apply below_drew1 | refine below_set ?_ HGE.out)); rintro e w2 ⟨Av, cv, rfl, hv, hp, hk, hb⟩; have nz := Aside0.mk (KeepBut.blk (o := .cells #[.int .i64 0, .string ⟨#[]⟩, .slice none 0 0, .bool false, .string ⟨#[]⟩, .bool false, .string ⟨#[]⟩] 63 (0, 0)) hk (by repeat (first | exact HZ.out | refine blk_alloc ?_ _ | refine blk_drewN ?_ _ | refine blk_drew ?_ | refine blk_far ?_ hne _)) hne (by simp)); have nk := Aside0.mk (KeepBut.trans (by repeat (first | exact HK.out | apply KeepBut.set_ | apply keep_drewN | apply keep_drew | apply keep_alloc)) hk (.inl rfl)); have nb := Aside0.mk hb; have np := Aside0.mk hp; have HV := Aside0.mk (Kd.R_lower (Kd.R_mono (ok' := fun k => k ≠ w.heap.size) (Kd.R_bound hv) (fun k hk => Ne.symm (Nat.ne_of_lt (Nat.lt_of_lt_of_le (blk_lt (o := .cells #[.int .i64 0, .string ⟨#[]⟩, .slice none 0 0, .bool false, .string ⟨#[]⟩, .bool false, .string ⟨#[]⟩] 63 (0, 0)) (by repeat (first | exact HZ.out | refine blk_alloc ?_ _ | refine blk_drewN ?_ _ | refine blk_drew ?_ | refine blk_far ?_ hne _))) hk.2.1)))) (keep_size (by repeat (first | exact HK.out | apply KeepBut.set_ | apply keep_drewN | apply keep_drew | apply keep_alloc)))); clear hv; clear HZ HK HB HP hk hb hp; have HZ := nz; have HK := nk; have HB := nb; have HP := np; clear nz nk nb np; obtain ⟨c0, c1, c2, c3, c4, c5, c6, f0, f1, f2, f3, f4, f5, f6⟩ := cells7 HZ.out))
      exact bodyPost_ret (results_single rfl (.cell w.heap.size 63 _ (0, 0) _ rfl (blk7 HZ.out _ _ _ _ _ _ _) Try.underlying63 rfl info63s .nil)) rfl (PEnd.of_ok ⟨_, rfl, ⟨Av, cv, rfl, Kd.R_mono (R7 HV.out (fun k hk => hk) _ _ _ _ _ _ _) (fun _ _ => trivial)⟩, isP7 HP.out hne (fun k hk => Nat.ne_of_lt (hol.out k hk)) _ _ _ _ _ _ _, keep7 HK.out (Nat.le_refl _) _ _ _ _ _ _ _, below7 HB.out hge _ _ _ _ _ _ _⟩ HR.out)
end Go.Proofs.Ytdodajpiidkglaa.K
