/- (*parser).literal: the walk where a name or none of its words stands. Conditions: the parser lies in memory as 'IsP' says. -/
import Derived.Test.YtdodajpiidkglaaKParserF
import Derived.Outline
namespace Go.Proofs.Ytdodajpiidkglaa.K
open Go.RowKit Go.Proofs.YtdodajpiidkglaaW.PrintWords Go.Proofs.YtdodajpiidkglaaW.PrintLast Go.Proofs.YtdodajpiidkglaaW.PrintMore Go.Proofs.Ytdodajpiidkglaa.PAll
set_option linter.unusedVariables false
set_option linter.unusedSimpArgs false

set_option maxHeartbeats 8000000 in
set_option maxRecDepth 100000 in
theorem literal_bad {w0 w : World} {g : Nat} {s : ByteArray} {L : Value} {c : Src} {i : Nat} {q : List Value} (hp : IsP w0 w g s L c i q) (hi : i ≤ c.T.length) (hB : Below w0.heap.size w0 w) (h7 : (c.at_ i).k ≠ 7) (h1 : (c.at_ i).k ≠ 1) (h2 : ¬((c.at_ i).k = 2 ∨ (c.at_ i).k = 3 ∨ (c.at_ i).k = 4)) :
    Calls Try.prog 55 #[.pointer (some ⟨g, 0, none⟩)] w (LitPost w0 w g s L c i q) := by
  have hgl := hp.lt
  have hol := Aside0.mk hp.own_lt
  have HGE := Aside0.mk hp.ge
  have hge : w0.heap.size ≤ w.heap.size := hB.size
  have hne : w.heap.size ≠ g := Ne.symm (Nat.ne_of_lt hgl)
  have HP := Aside0.mk (hp.alloc (.cells #[.int .i64 0, .string ⟨#[]⟩, .slice none 0 0, .bool false, .string ⟨#[]⟩, .bool false, .string ⟨#[]⟩] 63))
  have HZ := Aside0.mk (blk_new w (.cells #[.int .i64 0, .string ⟨#[]⟩, .slice none 0 0, .bool false, .string ⟨#[]⟩, .bool false, .string ⟨#[]⟩] 63))
  have HK := Aside0.mk (keep_alloc (KeepBut.refl w g none) (.cells #[.int .i64 0, .string ⟨#[]⟩, .slice none 0 0, .bool false, .string ⟨#[]⟩, .bool false, .string ⟨#[]⟩] 63))
  have HB := Aside0.mk (below_alloc hB (.cells #[.int .i64 0, .string ⟨#[]⟩, .slice none 0 0, .bool false, .string ⟨#[]⟩, .bool false, .string ⟨#[]⟩] 63))
  have HI := Aside0.mk hi
  have hlen := hp.2.2.2
  obtain ⟨p0, p1, p2, p3, p4, p5, p6, p7, pf⟩ := pc HP.out.1
  clear hp hB p0 p2 p3 p4 p5 p6

  have HR := Aside0.mk (show literalP c i = .error (stopP c i [7, 1, 2, 3, 4]) by unfold literalP; rw [if_neg h7, if_neg h1, if_neg h2])
  have b7 : (((c.at_ i).k : Int) == 7) = false := beq_eq_false_iff_ne.2 (by omega)
  have b1 : (((c.at_ i).k : Int) == 1) = false := beq_eq_false_iff_ne.2 (by omega)
  have b2 : (((c.at_ i).k : Int) == 2) = false := beq_eq_false_iff_ne.2 (by omega)
  have b3 : (((c.at_ i).k : Int) == 3) = false := beq_eq_false_iff_ne.2 (by omega)
  have b4 : (((c.at_ i).k : Int) == 4) = false := beq_eq_false_iff_ne.2 (by omega)
  clear h7 h1 h2
  go_enter Try.func55, Try.ntmps55
  go_upto_region 2 with (first | (go_at_call 54; (with_reducible refine (kind_calls (w0 := w0) (s := s) (L := L) (q := q) ?k1 HI.out).mono ?_); (case k1 => repeat (first | exact HP.out | apply IsP.alloc | apply IsP.drewN | apply IsP.drew | apply IsP.step1)); rintro e wk ⟨rfl, ⟨nd, rfl⟩⟩))
  go_wp2_with (first | (go_at_call 31; (with_reducible refine (stop_calls (w0 := w0) (s := s) (L := L) (q := q) (wl := [7, 1, 2, 3, 4]) ?s1 HI.out ?s2 ?s3).mono ?_); (case s1 => repeat (first | exact HP.out | apply IsP.alloc | apply IsP.drewN | apply IsP.drew | apply IsP.step1)); (case s2 => repeat (first | exact Wants.of_new (by simp) rfl rfl | apply Wants.drewN)); (case s3 => decide); rintro e w2 ⟨rfl, hb⟩; have HKE := Aside0.mk (KeepBut.trans (by repeat (first | exact HK.out | apply KeepBut.set_ | apply keep_drewN | apply keep_drew | apply keep_alloc)) (KeepBut.of_below hb g none) (.inl rfl)); have HBE := Aside0.mk (below_step (by repeat (first | exact HB.out | apply below_alloc | apply pw_below_drewN | apply below_drew1 | refine below_set ?_ HGE.out)) hb); clear hb; simp only [faultE]))
  exact ⟨rfl, PEnd.of_err ⟨rfl, HKE.out, HBE.out⟩ HR.out⟩
set_option maxHeartbeats 8000000 in
set_option maxRecDepth 100000 in
theorem literal_at {w0 w : World} {g : Nat} {s : ByteArray} {L : Value} {c : Src} {i : Nat} {q : List Value} (hp : IsP w0 w g s L c i q) (hi : i ≤ c.T.length) (hB : Below w0.heap.size w0 w) (h1 : (c.at_ i).k = 1) :
    Calls Try.prog 55 #[.pointer (some ⟨g, 0, none⟩)] w (LitPost w0 w g s L c i q) := by
  have hgl := hp.lt
  have hol := Aside0.mk hp.own_lt
  have HGE := Aside0.mk hp.ge
  have hge : w0.heap.size ≤ w.heap.size := hB.size
  have hne : w.heap.size ≠ g := Ne.symm (Nat.ne_of_lt hgl)
  have HP := Aside0.mk (hp.alloc (.cells #[.int .i64 0, .string ⟨#[]⟩, .slice none 0 0, .bool false, .string ⟨#[]⟩, .bool false, .string ⟨#[]⟩] 63))
  have HZ := Aside0.mk (blk_new w (.cells #[.int .i64 0, .string ⟨#[]⟩, .slice none 0 0, .bool false, .string ⟨#[]⟩, .bool false, .string ⟨#[]⟩] 63))
  have HK := Aside0.mk (keep_alloc (KeepBut.refl w g none) (.cells #[.int .i64 0, .string ⟨#[]⟩, .slice none 0 0, .bool false, .string ⟨#[]⟩, .bool false, .string ⟨#[]⟩] 63))
  have HB := Aside0.mk (below_alloc hB (.cells #[.int .i64 0, .string ⟨#[]⟩, .slice none 0 0, .bool false, .string ⟨#[]⟩, .bool false, .string ⟨#[]⟩] 63))
  have HI := Aside0.mk hi
  have hlen := hp.2.2.2
  obtain ⟨p0, p1, p2, p3, p4, p5, p6, p7, pf⟩ := pc HP.out.1
  clear hp hB p0 p3 p4 p5 p6

  have hilt : i < c.T.length := lt_of_kind (by omega)
  obtain ⟨A, cc, hLe, hC⟩ := HP.out.tokens
  rw [hLe] at p1
  clear hLe
  have b7 : (((c.at_ i).k : Int) == 7) = false := beq_eq_false_iff_ne.2 (by omega)
  have b1 : (((c.at_ i).k : Int) == 1) = true := beq_iff_eq.2 (by omega)
  rcases Nat.lt_or_ge (i + 1) c.T.length with hn | hn
  · obtain ⟨ad, rfl, t0, t1, t2, t3⟩ := at_T71 hC (i + 1) hn
    have hd : decide ((i : Int) + 1 < (c.T.length : Int)) = true := decide_eq_true (by omega)
    have he : ((i : Int) + 1 == (c.T.length : Int)) = false := beq_eq_false_iff_ne.2 (by omega)
    have hn' := hn
    clear t1 t2 t3 hC
    by_cases h14 : (rd_T71 c.T (i + 1)).k = 14
    · have hL : literalP c i = unlikeP c i := by unfold literalP; rw [if_neg (by omega), if_pos h1, if_pos (.inl ⟨hn', h14⟩)]
      have h14b : (((rd_T71 c.T (i + 1)).k : Int) == 14) = true := beq_iff_eq.2 (by omega)
      clear h14 h1 hn' hilt
      unfold unlikeP at hL
      cases hx : termP c i with
      | error a =>
        rw [hx] at hL
        have HR := Aside0.mk hL
        have HX := Aside0.mk hx
        clear hL hx
        go_enter Try.func55, Try.ntmps55
        go_upto_region 13 with (first | (go_at_call 54; (with_reducible refine (kind_calls (w0 := w0) (s := s) (L := L) (q := q) ?k1 HI.out).mono ?_); (case k1 => repeat (first | exact HP.out | apply IsP.alloc | apply IsP.drewN | apply IsP.drew | apply IsP.step1)); rintro e wk ⟨rfl, ⟨nd, rfl⟩⟩))
        go_wp2_with (first | (go_at_call 74; (with_reducible refine (term_err (w0 := w0) (s := s) (L := L) (q := q) HX.out ?t1 HI.out ?t2).mono ?_); (case t1 => repeat (first | exact HP.out | apply IsP.alloc | apply IsP.drewN | apply IsP.drew | apply IsP.step1)); (case t2 => repeat (first | exact HB.out | apply below_alloc | apply pw_below_drewN | apply below_drew1 | refine below_set ?_ HGE.out)); rintro e w2 ⟨rfl, hk, hb⟩; have HKE := Aside0.mk (KeepBut.trans (by repeat (first | exact HK.out | apply KeepBut.set_ | apply keep_drewN | apply keep_drew | apply keep_alloc)) hk (.inl rfl)); have HBE := Aside0.mk hb; clear hk hb))
        exact ⟨rfl, PEnd.of_err ⟨rfl, HKE.out, HBE.out⟩ HR.out⟩
      | ok r =>
        obtain ⟨x, i1⟩ := r
        rw [hx] at hL
        simp only at hL
        have HI1 := Aside0.mk (termP_le hx).2
        have HX := Aside0.mk hx
        clear hx
        cases ht : takeP c i1 [14] with
        | error a =>
          rw [ht] at hL
          have HR := Aside0.mk hL
          have HT := Aside0.mk ht
          clear hL ht
          go_enter Try.func55, Try.ntmps55
          go_upto_region 13 with (first | (go_at_call 54; (with_reducible refine (kind_calls (w0 := w0) (s := s) (L := L) (q := q) ?k1 HI.out).mono ?_); (case k1 => repeat (first | exact HP.out | apply IsP.alloc | apply IsP.drewN | apply IsP.drew | apply IsP.step1)); rintro e wk ⟨rfl, ⟨nd, rfl⟩⟩))
          go_upto_region 14 with (first | (go_at_call 74; (with_reducible refine (term_ok (w0 := w0) (s := s) (L := L) (q := q) HX.out ?t1 HI.out ?t2).mono ?_); (case t1 => repeat (first | exact HP.out | apply IsP.alloc | apply IsP.drewN | apply IsP.drew | apply IsP.step1)); (case t2 => repeat (first | exact HB.out | apply below_alloc | apply pw_below_drewN | apply below_drew1 | refine below_set ?_ HGE.out)); rintro e wa ⟨rfl, hp, hk, hb⟩; have nz := KeepBut.blk (o := .cells #[.int .i64 0, .string ⟨#[]⟩, .slice none 0 0, .bool false, .string ⟨#[]⟩, .bool false, .string ⟨#[]⟩] 63 (0, 0)) hk (by repeat (first | exact HZ.out | refine blk_alloc ?_ _ | refine blk_drewN ?_ _ | refine blk_drew ?_ | refine blk_far ?_ hne _)) hne (by simp); have nk := KeepBut.trans (by repeat (first | exact HK.out | apply KeepBut.set_ | apply keep_drewN | apply keep_drew | apply keep_alloc)) hk (.inl rfl); have hya := hp.lt; have hyb := blk_lt nz; have HY := Aside0.mk (blk_new wa (.cells #[.int .i64 3, .string ⟨#[]⟩, .slice none 0 0, .bool x.f0, .string x.f1, .bool false, .string ⟨#[]⟩] 63)); have nz2 := Aside0.mk (blk_alloc nz (.cells #[.int .i64 3, .string ⟨#[]⟩, .slice none 0 0, .bool x.f0, .string x.f1, .bool false, .string ⟨#[]⟩] 63)); have np := Aside0.mk (hp.alloc (.cells #[.int .i64 3, .string ⟨#[]⟩, .slice none 0 0, .bool x.f0, .string x.f1, .bool false, .string ⟨#[]⟩] 63)); have nk2 := Aside0.mk (keep_alloc nk (.cells #[.int .i64 3, .string ⟨#[]⟩, .slice none 0 0, .bool x.f0, .string x.f1, .bool false, .string ⟨#[]⟩] 63)); have nb := Aside0.mk (below_alloc hb (.cells #[.int .i64 3, .string ⟨#[]⟩, .slice none 0 0, .bool x.f0, .string x.f1, .bool false, .string ⟨#[]⟩] 63)); have HYO := Aside0.mk hp.own_lt; have HYA := Aside0.mk hya; have HYB := Aside0.mk hyb; have HYK := Aside0.mk nk.1; have HYW := Aside0.mk hb.size; clear HZ HK HB HP hp hk hb nz nk hya hyb; have HZ := nz2; have HK := nk2; have HB := nb; have HP := np; clear nz2 nk2 nb np; have hbn : wa.heap.size ≠ w.heap.size := Nat.ne_of_gt HYB.out; have hbn2 : w.heap.size ≠ wa.heap.size := Nat.ne_of_lt HYB.out))
          go_wp2_with (first | (go_at_call 30; (with_reducible refine (take_err (w0 := w0) (s := s) (L := L) (q := q) (h := HT.out) ?h1 ?h2 ?h3 ?h4 ?h5 ?h6).mono ?_); (case h1 => repeat (first | exact HP.out | apply IsP.alloc | apply IsP.drewN | apply IsP.drew | apply IsP.step1)); (case h2 => exact HI1.out); (case h3 => repeat (first | exact HB.out | apply below_alloc | apply pw_below_drewN | apply below_drew1 | refine below_set ?_ HGE.out)); (case h4 => repeat (first | exact Wants.of_new (by simp) rfl rfl | apply Wants.drewN)); (case h5 => decide); (case h6 => decide); rintro e w2 ⟨rfl, hk, hb⟩; have HKE := Aside0.mk (KeepBut.trans (by repeat (first | exact HK.out | apply KeepBut.set_ | apply keep_drewN | apply keep_drew | apply keep_alloc)) hk (.inl rfl)); have HBE := Aside0.mk hb; clear hk hb))
          exact ⟨rfl, PEnd.of_err ⟨rfl, HKE.out, HBE.out⟩ HR.out⟩
        | ok r =>
          obtain ⟨t, i2⟩ := r
          rw [ht] at hL
          simp only at hL
          have HI2 := Aside0.mk (takeP_lt (by decide) ht).2.1
          have HT := Aside0.mk ht
          clear ht
          cases hy : termP c i2 with
          | error a =>
            rw [hy] at hL
            have HR := Aside0.mk hL
            have HX2 := Aside0.mk hy
            clear hL hy
            go_enter Try.func55, Try.ntmps55
            go_upto_region 13 with (first | (go_at_call 54; (with_reducible refine (kind_calls (w0 := w0) (s := s) (L := L) (q := q) ?k1 HI.out).mono ?_); (case k1 => repeat (first | exact HP.out | apply IsP.alloc | apply IsP.drewN | apply IsP.drew | apply IsP.step1)); rintro e wk ⟨rfl, ⟨nd, rfl⟩⟩))
            go_upto_region 14 with (first | (go_at_call 74; (with_reducible refine (term_ok (w0 := w0) (s := s) (L := L) (q := q) HX.out ?t1 HI.out ?t2).mono ?_); (case t1 => repeat (first | exact HP.out | apply IsP.alloc | apply IsP.drewN | apply IsP.drew | apply IsP.step1)); (case t2 => repeat (first | exact HB.out | apply below_alloc | apply pw_below_drewN | apply below_drew1 | refine below_set ?_ HGE.out)); rintro e wa ⟨rfl, hp, hk, hb⟩; have nz := KeepBut.blk (o := .cells #[.int .i64 0, .string ⟨#[]⟩, .slice none 0 0, .bool false, .string ⟨#[]⟩, .bool false, .string ⟨#[]⟩] 63 (0, 0)) hk (by repeat (first | exact HZ.out | refine blk_alloc ?_ _ | refine blk_drewN ?_ _ | refine blk_drew ?_ | refine blk_far ?_ hne _)) hne (by simp); have nk := KeepBut.trans (by repeat (first | exact HK.out | apply KeepBut.set_ | apply keep_drewN | apply keep_drew | apply keep_alloc)) hk (.inl rfl); have hya := hp.lt; have hyb := blk_lt nz; have HY := Aside0.mk (blk_new wa (.cells #[.int .i64 3, .string ⟨#[]⟩, .slice none 0 0, .bool x.f0, .string x.f1, .bool false, .string ⟨#[]⟩] 63)); have nz2 := Aside0.mk (blk_alloc nz (.cells #[.int .i64 3, .string ⟨#[]⟩, .slice none 0 0, .bool x.f0, .string x.f1, .bool false, .string ⟨#[]⟩] 63)); have np := Aside0.mk (hp.alloc (.cells #[.int .i64 3, .string ⟨#[]⟩, .slice none 0 0, .bool x.f0, .string x.f1, .bool false, .string ⟨#[]⟩] 63)); have nk2 := Aside0.mk (keep_alloc nk (.cells #[.int .i64 3, .string ⟨#[]⟩, .slice none 0 0, .bool x.f0, .string x.f1, .bool false, .string ⟨#[]⟩] 63)); have nb := Aside0.mk (below_alloc hb (.cells #[.int .i64 3, .string ⟨#[]⟩, .slice none 0 0, .bool x.f0, .string x.f1, .bool false, .string ⟨#[]⟩] 63)); have HYO := Aside0.mk hp.own_lt; have HYA := Aside0.mk hya; have HYB := Aside0.mk hyb; have HYK := Aside0.mk nk.1; have HYW := Aside0.mk hb.size; clear HZ HK HB HP hp hk hb nz nk hya hyb; have HZ := nz2; have HK := nk2; have HB := nb; have HP := np; clear nz2 nk2 nb np; have hbn : wa.heap.size ≠ w.heap.size := Nat.ne_of_gt HYB.out; have hbn2 : w.heap.size ≠ wa.heap.size := Nat.ne_of_lt HYB.out))
            go_upto_region 15 with (first | (go_at_call 30; (with_reducible refine (take_ok (w0 := w0) (s := s) (L := L) (q := q) (h := HT.out) ?h1 ?h2 ?h3 ?h4 ?h5 ?h6).mono ?_); (case h1 => repeat (first | exact HP.out | apply IsP.alloc | apply IsP.drewN | apply IsP.drew | apply IsP.step1)); (case h2 => exact HI1.out); (case h3 => repeat (first | exact HB.out | apply below_alloc | apply pw_below_drewN | apply below_drew1 | refine below_set ?_ HGE.out)); (case h4 => repeat (first | exact Wants.of_new (by simp) rfl rfl | apply Wants.drewN)); (case h5 => decide); (case h6 => decide); rintro e wb ⟨rfl, hp, hk, hb⟩; have ny := Aside0.mk (KeepBut.blk (o := .cells #[.int .i64 3, .string ⟨#[]⟩, .slice none 0 0, .bool x.f0, .string x.f1, .bool false, .string ⟨#[]⟩] 63 (0, 0)) hk (by repeat (first | exact HY.out | refine blk_alloc ?_ _ | refine blk_drewN ?_ _ | refine blk_drew ?_ | refine blk_far ?_ hne _)) (Nat.ne_of_gt HYA.out) (by simp)); have nz := Aside0.mk (KeepBut.blk (o := .cells #[.int .i64 0, .string ⟨#[]⟩, .slice none 0 0, .bool false, .string ⟨#[]⟩, .bool false, .string ⟨#[]⟩] 63 (0, 0)) hk (by repeat (first | exact HZ.out | refine blk_alloc ?_ _ | refine blk_drewN ?_ _ | refine blk_drew ?_ | refine blk_far ?_ hne _)) hne (by simp)); have nk := Aside0.mk (KeepBut.trans (by repeat (first | exact HK.out | apply KeepBut.set_ | apply keep_drewN | apply keep_drew | apply keep_alloc)) hk (.inl rfl)); have nb := Aside0.mk hb; have np := Aside0.mk hp;  clear HZ HK HB HP hk hb hp; have HZ := nz; have HK := nk; have HB := nb; have HP := np; clear nz nk nb np; clear HY; have HY := ny; clear ny))
            go_wp2_with (first | (go_at_call 74; (with_reducible refine (term_err (w0 := w0) (s := s) (L := L) (q := q) HX2.out ?t1 HI2.out ?t2).mono ?_); (case t1 => repeat (first | exact HP.out | apply IsP.alloc | apply IsP.drewN | apply IsP.drew | apply IsP.step1)); (case t2 => repeat (first | exact HB.out | apply below_alloc | apply pw_below_drewN | apply below_drew1 | refine below_set ?_ HGE.out)); rintro e w2 ⟨rfl, hk, hb⟩; have HKE := Aside0.mk (KeepBut.trans (by repeat (first | exact HK.out | apply KeepBut.set_ | apply keep_drewN | apply keep_drew | apply keep_alloc)) hk (.inl rfl)); have HBE := Aside0.mk hb; clear hk hb))
            exact ⟨rfl, PEnd.of_err ⟨rfl, HKE.out, HBE.out⟩ HR.out⟩
          | ok r =>
            obtain ⟨y, i3⟩ := r
            rw [hy] at hL
            have HR := Aside0.mk hL
            have HX2 := Aside0.mk hy
            clear hL hy
            go_enter Try.func55, Try.ntmps55
            go_upto_region 13 with (first | (go_at_call 54; (with_reducible refine (kind_calls (w0 := w0) (s := s) (L := L) (q := q) ?k1 HI.out).mono ?_); (case k1 => repeat (first | exact HP.out | apply IsP.alloc | apply IsP.drewN | apply IsP.drew | apply IsP.step1)); rintro e wk ⟨rfl, ⟨nd, rfl⟩⟩))
            go_upto_region 14 with (first | (go_at_call 74; (with_reducible refine (term_ok (w0 := w0) (s := s) (L := L) (q := q) HX.out ?t1 HI.out ?t2).mono ?_); (case t1 => repeat (first | exact HP.out | apply IsP.alloc | apply IsP.drewN | apply IsP.drew | apply IsP.step1)); (case t2 => repeat (first | exact HB.out | apply below_alloc | apply pw_below_drewN | apply below_drew1 | refine below_set ?_ HGE.out)); rintro e wa ⟨rfl, hp, hk, hb⟩; have nz := KeepBut.blk (o := .cells #[.int .i64 0, .string ⟨#[]⟩, .slice none 0 0, .bool false, .string ⟨#[]⟩, .bool false, .string ⟨#[]⟩] 63 (0, 0)) hk (by repeat (first | exact HZ.out | refine blk_alloc ?_ _ | refine blk_drewN ?_ _ | refine blk_drew ?_ | refine blk_far ?_ hne _)) hne (by simp); have nk := KeepBut.trans (by repeat (first | exact HK.out | apply KeepBut.set_ | apply keep_drewN | apply keep_drew | apply keep_alloc)) hk (.inl rfl); have hya := hp.lt; have hyb := blk_lt nz; have HY := Aside0.mk (blk_new wa (.cells #[.int .i64 3, .string ⟨#[]⟩, .slice none 0 0, .bool x.f0, .string x.f1, .bool false, .string ⟨#[]⟩] 63)); have nz2 := Aside0.mk (blk_alloc nz (.cells #[.int .i64 3, .string ⟨#[]⟩, .slice none 0 0, .bool x.f0, .string x.f1, .bool false, .string ⟨#[]⟩] 63)); have np := Aside0.mk (hp.alloc (.cells #[.int .i64 3, .string ⟨#[]⟩, .slice none 0 0, .bool x.f0, .string x.f1, .bool false, .string ⟨#[]⟩] 63)); have nk2 := Aside0.mk (keep_alloc nk (.cells #[.int .i64 3, .string ⟨#[]⟩, .slice none 0 0, .bool x.f0, .string x.f1, .bool false, .string ⟨#[]⟩] 63)); have nb := Aside0.mk (below_alloc hb (.cells #[.int .i64 3, .string ⟨#[]⟩, .slice none 0 0, .bool x.f0, .string x.f1, .bool false, .string ⟨#[]⟩] 63)); have HYO := Aside0.mk hp.own_lt; have HYA := Aside0.mk hya; have HYB := Aside0.mk hyb; have HYK := Aside0.mk nk.1; have HYW := Aside0.mk hb.size; clear HZ HK HB HP hp hk hb nz nk hya hyb; have HZ := nz2; have HK := nk2; have HB := nb; have HP := np; clear nz2 nk2 nb np; have hbn : wa.heap.size ≠ w.heap.size := Nat.ne_of_gt HYB.out; have hbn2 : w.heap.size ≠ wa.heap.size := Nat.ne_of_lt HYB.out))
            go_upto_region 15 with (first | (go_at_call 30; (with_reducible refine (take_ok (w0 := w0) (s := s) (L := L) (q := q) (h := HT.out) ?h1 ?h2 ?h3 ?h4 ?h5 ?h6).mono ?_); (case h1 => repeat (first | exact HP.out | apply IsP.alloc | apply IsP.drewN | apply IsP.drew | apply IsP.step1)); (case h2 => exact HI1.out); (case h3 => repeat (first | exact HB.out | apply below_alloc | apply pw_below_drewN | apply below_drew1 | refine below_set ?_ HGE.out)); (case h4 => repeat (first | exact Wants.of_new (by simp) rfl rfl | apply Wants.drewN)); (case h5 => decide); (case h6 => decide); rintro e wb ⟨rfl, hp, hk, hb⟩; have ny := Aside0.mk (KeepBut.blk (o := .cells #[.int .i64 3, .string ⟨#[]⟩, .slice none 0 0, .bool x.f0, .string x.f1, .bool false, .string ⟨#[]⟩] 63 (0, 0)) hk (by repeat (first | exact HY.out | refine blk_alloc ?_ _ | refine blk_drewN ?_ _ | refine blk_drew ?_ | refine blk_far ?_ hne _)) (Nat.ne_of_gt HYA.out) (by simp)); have nz := Aside0.mk (KeepBut.blk (o := .cells #[.int .i64 0, .string ⟨#[]⟩, .slice none 0 0, .bool false, .string ⟨#[]⟩, .bool false, .string ⟨#[]⟩] 63 (0, 0)) hk (by repeat (first | exact HZ.out | refine blk_alloc ?_ _ | refine blk_drewN ?_ _ | refine blk_drew ?_ | refine blk_far ?_ hne _)) hne (by simp)); have nk := Aside0.mk (KeepBut.trans (by repeat (first | exact HK.out | apply KeepBut.set_ | apply keep_drewN | apply keep_drew | apply keep_alloc)) hk (.inl rfl)); have nb := Aside0.mk hb; have np := Aside0.mk hp;  clear HZ HK HB HP hk hb hp; have HZ := nz; have HK := nk; have HB := nb; have HP := np; clear nz nk nb np; clear HY; have HY := ny; clear ny))
            go_wp2_with (first | (go_at_call 74; (with_reducible refine (term_ok (w0 := w0) (s := s) (L := L) (q := q) HX2.out ?t1 HI2.out ?t2).mono ?_); (case t1 => repeat (first | exact HP.out | apply IsP.alloc | apply IsP.drewN | apply IsP.drew | apply IsP.step1)); (case t2 => repeat (first | exact HB.out | apply below_alloc | apply pw_below_drewN | apply below_drew1 | refine below_set ?_ HGE.out)); rintro e wc ⟨rfl, hp, hk, hb⟩; have ny := Aside0.mk (KeepBut.blk (o := .cells #[.int .i64 3, .string ⟨#[]⟩, .slice none 0 0, .bool x.f0, .string x.f1, .bool false, .string ⟨#[]⟩] 63 (0, 0)) hk (by repeat (first | exact HY.out | refine blk_alloc ?_ _ | refine blk_drewN ?_ _ | refine blk_drew ?_ | refine blk_far ?_ hne _)) (Nat.ne_of_gt HYA.out) (by simp)); have nz := Aside0.mk (KeepBut.blk (o := .cells #[.int .i64 0, .string ⟨#[]⟩, .slice none 0 0, .bool false, .string ⟨#[]⟩, .bool false, .string ⟨#[]⟩] 63 (0, 0)) hk (by repeat (first | exact HZ.out | refine blk_alloc ?_ _ | refine blk_drewN ?_ _ | refine blk_drew ?_ | refine blk_far ?_ hne _)) hne (by simp)); have nk := Aside0.mk (KeepBut.trans (by repeat (first | exact HK.out | apply KeepBut.set_ | apply keep_drewN | apply keep_drew | apply keep_alloc)) hk (.inl rfl)); have nb := Aside0.mk hb; have np := Aside0.mk hp;  clear HZ HK HB HP hk hb hp; have HZ := nz; have HK := nk; have HB := nb; have HP := np; clear nz nk nb np; clear HY; have HY := ny; clear ny; obtain ⟨c0, c1, c2, c3, c4, c5, c6, f0, f1, f2, f3, f4, f5, f6⟩ := cells7 HZ.out; obtain ⟨d0, d1, d2, d3, d4, d5, d6, e0, e1, e2, e3, e4, e5, e6⟩ := cells7 HY.out; have hyl := blk_lt HY.out; have hbl := blk_lt HZ.out))
            exact bodyPost_ret (results_single rfl (.cell w.heap.size 63 _ (0, 0) _ rfl (blk7 (blk_far (blk_far HZ.out hbn2 _) hbn2 _) _ _ _ _ _ _ _) Try.underlying63 rfl info63s .nil)) rfl (PEnd.of_ok ⟨_, rfl, ⟨none, 0, rfl, Kd.R_nil _ _ _ _ _⟩, isP7 ((HP.out.far_ (Nat.ne_of_gt HYA.out) (fun k hk => Nat.ne_of_lt (HYO.out k hk)) _).far_ (Nat.ne_of_gt HYA.out) (fun k hk => Nat.ne_of_lt (HYO.out k hk)) _) hne (fun k hk => Nat.ne_of_lt (hol.out k hk)) _ _ _ _ _ _ _, keep7 (keep_new (keep_new HK.out HYK.out _) HYK.out _) (Nat.le_refl _) _ _ _ _ _ _ _, below7 ((HB.out.setCell HYW.out _).setCell HYW.out _) hge _ _ _ _ _ _ _⟩ HR.out)
    · have hL : literalP c i = match atomP c i with | .error a => .error a | .ok (x, i') => .ok (⟨1, x, z61, z61⟩, i') := by unfold literalP; rw [if_neg (by omega), if_pos h1, if_neg (fun h => h.elim (fun h => h14 h.2) (fun h => by omega))]; rfl
      have h14b : (((rd_T71 c.T (i + 1)).k : Int) == 14) = false := beq_eq_false_iff_ne.2 (by omega)
      clear h14 hn'
      unfold atomP at hL
      have hi2 : i + 1 ≤ c.T.length := by omega
      have HI3 := Aside0.mk hi2
      have ht : takeP c i [1] = .ok (c.at_ i, i + 1) := by unfold takeP; rw [if_pos (by rw [h1]; decide)]
      rw [ht] at hL
      simp only at hL
      have HT := Aside0.mk ht
      have hfd := fun w => field71_1 (.int .i64 ((c.at_ i).k : Int)) (.string (c.at_ i).t) (.int .i64 ((c.at_ i).a : Int)) (.int .i64 ((c.at_ i).e : Int)) w
      clear ht hi2 h1
      cases ha : argsP c (i + 1) with
      | error a =>
        rw [ha] at hL
        have HR := Aside0.mk hL
        have HA := Aside0.mk ha
        clear hL ha
        go_enter Try.func55, Try.ntmps55
        go_upto_region 9 with (first | (go_at_call 54; (with_reducible refine (kind_calls (w0 := w0) (s := s) (L := L) (q := q) ?k1 HI.out).mono ?_); (case k1 => repeat (first | exact HP.out | apply IsP.alloc | apply IsP.drewN | apply IsP.drew | apply IsP.step1)); rintro e wk ⟨rfl, ⟨nd, rfl⟩⟩))
        go_wp2_with (first | (go_at_call 30; (with_reducible refine (take_ok (w0 := w0) (s := s) (L := L) (q := q) (h := HT.out) ?h1 ?h2 ?h3 ?h4 ?h5 ?h6).mono ?_); (case h1 => repeat (first | exact HP.out | apply IsP.alloc | apply IsP.drewN | apply IsP.drew | apply IsP.step1)); (case h2 => exact HI.out); (case h3 => repeat (first | exact HB.out | apply below_alloc | apply pw_below_drewN | apply below_drew1 | refine below_set ?_ HGE.out)); (case h4 => repeat (first | exact Wants.of_new (by simp) rfl rfl | apply Wants.drewN)); (case h5 => decide); (case h6 => decide); rintro e w2 ⟨rfl, hp, hk, hb⟩; have nz := Aside0.mk (KeepBut.blk (o := .cells #[.int .i64 0, .string ⟨#[]⟩, .slice none 0 0, .bool false, .string ⟨#[]⟩, .bool false, .string ⟨#[]⟩] 63 (0, 0)) hk (by repeat (first | exact HZ.out | refine blk_alloc ?_ _ | refine blk_drewN ?_ _ | refine blk_drew ?_ | refine blk_far ?_ hne _)) hne (by simp)); have nk := Aside0.mk (KeepBut.trans (by repeat (first | exact HK.out | apply KeepBut.set_ | apply keep_drewN | apply keep_drew | apply keep_alloc)) hk (.inl rfl)); have nb := Aside0.mk hb; have np := Aside0.mk hp;  clear HZ HK HB HP hk hb hp; have HZ := nz; have HK := nk; have HB := nb; have HP := np; clear nz nk nb np) | (go_at_call 53; (with_reducible refine (args_err (w0 := w0) (s := s) (L := L) (q := q) HA.out ?a1 HI3.out ?a2).mono ?_); (case a1 => repeat (first | exact HP.out | apply IsP.alloc | apply IsP.drewN | apply IsP.drew | apply IsP.step1)); (case a2 => repeat (first | exact HB.out | apply below_alloc | apply pw_below_drewN | apply below_drew1 | refine below_set ?_ HGE.out)); rintro e w2 ⟨rfl, hk, hb⟩; have HKE := Aside0.mk (KeepBut.trans (by repeat (first | exact HK.out | apply KeepBut.set_ | apply keep_drewN | apply keep_drew | apply keep_alloc)) hk (.inl rfl)); have HBE := Aside0.mk hb; clear hk hb))
        exact ⟨rfl, PEnd.of_err ⟨rfl, HKE.out, HBE.out⟩ HR.out⟩
      | ok r2 =>
        obtain ⟨l, i3⟩ := r2
        rw [ha] at hL
        have HR := Aside0.mk hL
        have HA := Aside0.mk ha
        clear hL ha
        go_enter Try.func55, Try.ntmps55
        go_upto_region 9 with (first | (go_at_call 54; (with_reducible refine (kind_calls (w0 := w0) (s := s) (L := L) (q := q) ?k1 HI.out).mono ?_); (case k1 => repeat (first | exact HP.out | apply IsP.alloc | apply IsP.drewN | apply IsP.drew | apply IsP.step1)); rintro e wk ⟨rfl, ⟨nd, rfl⟩⟩))
        go_wp2_with (first | (go_at_call 30; (with_reducible refine (take_ok (w0 := w0) (s := s) (L := L) (q := q) (h := HT.out) ?h1 ?h2 ?h3 ?h4 ?h5 ?h6).mono ?_); (case h1 => repeat (first | exact HP.out | apply IsP.alloc | apply IsP.drewN | apply IsP.drew | apply IsP.step1)); (case h2 => exact HI.out); (case h3 => repeat (first | exact HB.out | apply below_alloc | apply pw_below_drewN | apply below_drew1 | refine below_set ?_ HGE.out)); (case h4 => repeat (first | exact Wants.of_new (by simp) rfl rfl | apply Wants.drewN)); (case h5 => decide); (case h6 => decide); rintro e w2 ⟨rfl, hp, hk, hb⟩; have nz := Aside0.mk (KeepBut.blk (o := .cells #[.int .i64 0, .string ⟨#[]⟩, .slice none 0 0, .bool false, .string ⟨#[]⟩, .bool false, .string ⟨#[]⟩] 63 (0, 0)) hk (by repeat (first | exact HZ.out | refine blk_alloc ?_ _ | refine blk_drewN ?_ _ | refine blk_drew ?_ | refine blk_far ?_ hne _)) hne (by simp)); have nk := Aside0.mk (KeepBut.trans (by repeat (first | exact HK.out | apply KeepBut.set_ | apply keep_drewN | apply keep_drew | apply keep_alloc)) hk (.inl rfl)); have nb := Aside0.mk hb; have np := Aside0.mk hp;  clear HZ HK HB HP hk hb hp; have HZ := nz; have HK := nk; have HB := nb; have HP := np; clear nz nk nb np) | (go_at_call 53; (with_reducible refine (args_ok (w0 := w0) (s := s) (L := L) (q := q) HA.out ?a1 HI3.out ?a2).mono ?_); (case a1 => repeat (first | exact HP.out | apply IsP.alloc | apply IsP.drewN | apply IsP.drew | apply IsP.step1)); (case a2 => repeat (first | exact HB.out | apply below_alloc | apply pw_below_drewN | apply below_drew1 | refine below_set ?_ HGE.out)); rintro e w2 ⟨Av, cv, rfl, hv, hp, hk, hb⟩; have nz := Aside0.mk (KeepBut.blk (o := .cells #[.int .i64 0, .string ⟨#[]⟩, .slice none 0 0, .bool false, .string ⟨#[]⟩, .bool false, .string ⟨#[]⟩] 63 (0, 0)) hk (by repeat (first | exact HZ.out | refine blk_alloc ?_ _ | refine blk_drewN ?_ _ | refine blk_drew ?_ | refine blk_far ?_ hne _)) hne (by simp)); have nk := Aside0.mk (KeepBut.trans (by repeat (first | exact HK.out | apply KeepBut.set_ | apply keep_drewN | apply keep_drew | apply keep_alloc)) hk (.inl rfl)); have nb := Aside0.mk hb; have np := Aside0.mk hp; have HV := Aside0.mk (Kd.R_lower (Kd.R_mono (ok' := fun k => k ≠ w.heap.size) (Kd.R_bound hv) (fun k hk => Ne.symm (Nat.ne_of_lt (Nat.lt_of_lt_of_le (blk_lt (o := .cells #[.int .i64 0, .string ⟨#[]⟩, .slice none 0 0, .bool false, .string ⟨#[]⟩, .bool false, .string ⟨#[]⟩] 63 (0, 0)) (by repeat (first | exact HZ.out | refine blk_alloc ?_ _ | refine blk_drewN ?_ _ | refine blk_drew ?_ | refine blk_far ?_ hne _))) hk.2.1)))) (keep_size (by repeat (first | exact HK.out | apply KeepBut.set_ | apply keep_drewN | apply keep_drew | apply keep_alloc)))); clear hv; clear HZ HK HB HP hk hb hp; have HZ := nz; have HK := nk; have HB := nb; have HP := np; clear nz nk nb np; obtain ⟨c0, c1, c2, c3, c4, c5, c6, f0, f1, f2, f3, f4, f5, f6⟩ := cells7 HZ.out))
        exact bodyPost_ret (results_single rfl (.cell w.heap.size 63 _ (0, 0) _ rfl (blk7 HZ.out _ _ _ _ _ _ _) Try.underlying63 rfl info63s .nil)) rfl (PEnd.of_ok ⟨_, rfl, ⟨Av, cv, rfl, Kd.R_mono (R7 HV.out (fun k hk => hk) _ _ _ _ _ _ _) (fun _ _ => trivial)⟩, isP7 HP.out hne (fun k hk => Nat.ne_of_lt (hol.out k hk)) _ _ _ _ _ _ _, keep7 HK.out (Nat.le_refl _) _ _ _ _ _ _ _, below7 HB.out hge _ _ _ _ _ _ _⟩ HR.out)
  · have hd : decide ((i : Int) + 1 < (c.T.length : Int)) = false := decide_eq_false (by omega)
    have he : ((i : Int) + 1 == (c.T.length : Int)) = true := beq_iff_eq.2 (by omega)
    have hn' : i + 1 = c.T.length := by omega
    clear hC
    by_cases h14 : c.o.k = 14
    · have hL : literalP c i = unlikeP c i := by unfold literalP; rw [if_neg (by omega), if_pos h1, if_pos (.inr ⟨hn', h14⟩)]
      have h14b : ((c.o.k : Int) == 14) = true := beq_iff_eq.2 (by omega)
      clear h14 h1 hn hn' hilt
      unfold unlikeP at hL
      cases hx : termP c i with
      | error a =>
        rw [hx] at hL
        have HR := Aside0.mk hL
        have HX := Aside0.mk hx
        clear hL hx
        go_enter Try.func55, Try.ntmps55
        go_upto_region 13 with (first | (go_at_call 54; (with_reducible refine (kind_calls (w0 := w0) (s := s) (L := L) (q := q) ?k1 HI.out).mono ?_); (case k1 => repeat (first | exact HP.out | apply IsP.alloc | apply IsP.drewN | apply IsP.drew | apply IsP.step1)); rintro e wk ⟨rfl, ⟨nd, rfl⟩⟩))
        go_wp2_with (first | (go_at_call 74; (with_reducible refine (term_err (w0 := w0) (s := s) (L := L) (q := q) HX.out ?t1 HI.out ?t2).mono ?_); (case t1 => repeat (first | exact HP.out | apply IsP.alloc | apply IsP.drewN | apply IsP.drew | apply IsP.step1)); (case t2 => repeat (first | exact HB.out | apply below_alloc | apply pw_below_drewN | apply below_drew1 | refine below_set ?_ HGE.out)); rintro e w2 ⟨rfl, hk, hb⟩; have HKE := Aside0.mk (KeepBut.trans (by repeat (first | exact HK.out | apply KeepBut.set_ | apply keep_drewN | apply keep_drew | apply keep_alloc)) hk (.inl rfl)); have HBE := Aside0.mk hb; clear hk hb))
        exact ⟨rfl, PEnd.of_err ⟨rfl, HKE.out, HBE.out⟩ HR.out⟩
      | ok r =>
        obtain ⟨x, i1⟩ := r
        rw [hx] at hL
        simp only at hL
        have HI1 := Aside0.mk (termP_le hx).2
        have HX := Aside0.mk hx
        clear hx
        cases ht : takeP c i1 [14] with
        | error a =>
          rw [ht] at hL
          have HR := Aside0.mk hL
          have HT := Aside0.mk ht
          clear hL ht
          go_enter Try.func55, Try.ntmps55
          go_upto_region 13 with (first | (go_at_call 54; (with_reducible refine (kind_calls (w0 := w0) (s := s) (L := L) (q := q) ?k1 HI.out).mono ?_); (case k1 => repeat (first | exact HP.out | apply IsP.alloc | apply IsP.drewN | apply IsP.drew | apply IsP.step1)); rintro e wk ⟨rfl, ⟨nd, rfl⟩⟩))
          go_upto_region 14 with (first | (go_at_call 74; (with_reducible refine (term_ok (w0 := w0) (s := s) (L := L) (q := q) HX.out ?t1 HI.out ?t2).mono ?_); (case t1 => repeat (first | exact HP.out | apply IsP.alloc | apply IsP.drewN | apply IsP.drew | apply IsP.step1)); (case t2 => repeat (first | exact HB.out | apply below_alloc | apply pw_below_drewN | apply below_drew1 | refine below_set ?_ HGE.out)); rintro e wa ⟨rfl, hp, hk, hb⟩; have nz := KeepBut.blk (o := .cells #[.int .i64 0, .string ⟨#[]⟩, .slice none 0 0, .bool false, .string ⟨#[]⟩, .bool false, .string ⟨#[]⟩] 63 (0, 0)) hk (by repeat (first | exact HZ.out | refine blk_alloc ?_ _ | refine blk_drewN ?_ _ | refine blk_drew ?_ | refine blk_far ?_ hne _)) hne (by simp); have nk := KeepBut.trans (by repeat (first | exact HK.out | apply KeepBut.set_ | apply keep_drewN | apply keep_drew | apply keep_alloc)) hk (.inl rfl); have hya := hp.lt; have hyb := blk_lt nz; have HY := Aside0.mk (blk_new wa (.cells #[.int .i64 3, .string ⟨#[]⟩, .slice none 0 0, .bool x.f0, .string x.f1, .bool false, .string ⟨#[]⟩] 63)); have nz2 := Aside0.mk (blk_alloc nz (.cells #[.int .i64 3, .string ⟨#[]⟩, .slice none 0 0, .bool x.f0, .string x.f1, .bool false, .string ⟨#[]⟩] 63)); have np := Aside0.mk (hp.alloc (.cells #[.int .i64 3, .string ⟨#[]⟩, .slice none 0 0, .bool x.f0, .string x.f1, .bool false, .string ⟨#[]⟩] 63)); have nk2 := Aside0.mk (keep_alloc nk (.cells #[.int .i64 3, .string ⟨#[]⟩, .slice none 0 0, .bool x.f0, .string x.f1, .bool false, .string ⟨#[]⟩] 63)); have nb := Aside0.mk (below_alloc hb (.cells #[.int .i64 3, .string ⟨#[]⟩, .slice none 0 0, .bool x.f0, .string x.f1, .bool false, .string ⟨#[]⟩] 63)); have HYO := Aside0.mk hp.own_lt; have HYA := Aside0.mk hya; have HYB := Aside0.mk hyb; have HYK := Aside0.mk nk.1; have HYW := Aside0.mk hb.size; clear HZ HK HB HP hp hk hb nz nk hya hyb; have HZ := nz2; have HK := nk2; have HB := nb; have HP := np; clear nz2 nk2 nb np; have hbn : wa.heap.size ≠ w.heap.size := Nat.ne_of_gt HYB.out; have hbn2 : w.heap.size ≠ wa.heap.size := Nat.ne_of_lt HYB.out))
          go_wp2_with (first | (go_at_call 30; (with_reducible refine (take_err (w0 := w0) (s := s) (L := L) (q := q) (h := HT.out) ?h1 ?h2 ?h3 ?h4 ?h5 ?h6).mono ?_); (case h1 => repeat (first | exact HP.out | apply IsP.alloc | apply IsP.drewN | apply IsP.drew | apply IsP.step1)); (case h2 => exact HI1.out); (case h3 => repeat (first | exact HB.out | apply below_alloc | apply pw_below_drewN | apply below_drew1 | refine below_set ?_ HGE.out)); (case h4 => repeat (first | exact Wants.of_new (by simp) rfl rfl | apply Wants.drewN)); (case h5 => decide); (case h6 => decide); rintro e w2 ⟨rfl, hk, hb⟩; have HKE := Aside0.mk (KeepBut.trans (by repeat (first | exact HK.out | apply KeepBut.set_ | apply keep_drewN | apply keep_drew | apply keep_alloc)) hk (.inl rfl)); have HBE := Aside0.mk hb; clear hk hb))
          exact ⟨rfl, PEnd.of_err ⟨rfl, HKE.out, HBE.out⟩ HR.out⟩
        | ok r =>
          obtain ⟨t, i2⟩ := r
          rw [ht] at hL
          simp only at hL
          have HI2 := Aside0.mk (takeP_lt (by decide) ht).2.1
          have HT := Aside0.mk ht
          clear ht
          cases hy : termP c i2 with
          | error a =>
            rw [hy] at hL
            have HR := Aside0.mk hL
            have HX2 := Aside0.mk hy
            clear hL hy
            go_enter Try.func55, Try.ntmps55
            go_upto_region 13 with (first | (go_at_call 54; (with_reducible refine (kind_calls (w0 := w0) (s := s) (L := L) (q := q) ?k1 HI.out).mono ?_); (case k1 => repeat (first | exact HP.out | apply IsP.alloc | apply IsP.drewN | apply IsP.drew | apply IsP.step1)); rintro e wk ⟨rfl, ⟨nd, rfl⟩⟩))
            go_upto_region 14 with (first | (go_at_call 74; (with_reducible refine (term_ok (w0 := w0) (s := s) (L := L) (q := q) HX.out ?t1 HI.out ?t2).mono ?_); (case t1 => repeat (first | exact HP.out | apply IsP.alloc | apply IsP.drewN | apply IsP.drew | apply IsP.step1)); (case t2 => repeat (first | exact HB.out | apply below_alloc | apply pw_below_drewN | apply below_drew1 | refine below_set ?_ HGE.out)); rintro e wa ⟨rfl, hp, hk, hb⟩; have nz := KeepBut.blk (o := .cells #[.int .i64 0, .string ⟨#[]⟩, .slice none 0 0, .bool false, .string ⟨#[]⟩, .bool false, .string ⟨#[]⟩] 63 (0, 0)) hk (by repeat (first | exact HZ.out | refine blk_alloc ?_ _ | refine blk_drewN ?_ _ | refine blk_drew ?_ | refine blk_far ?_ hne _)) hne (by simp); have nk := KeepBut.trans (by repeat (first | exact HK.out | apply KeepBut.set_ | apply keep_drewN | apply keep_drew | apply keep_alloc)) hk (.inl rfl); have hya := hp.lt; have hyb := blk_lt nz; have HY := Aside0.mk (blk_new wa (.cells #[.int .i64 3, .string ⟨#[]⟩, .slice none 0 0, .bool x.f0, .string x.f1, .bool false, .string ⟨#[]⟩] 63)); have nz2 := Aside0.mk (blk_alloc nz (.cells #[.int .i64 3, .string ⟨#[]⟩, .slice none 0 0, .bool x.f0, .string x.f1, .bool false, .string ⟨#[]⟩] 63)); have np := Aside0.mk (hp.alloc (.cells #[.int .i64 3, .string ⟨#[]⟩, .slice none 0 0, .bool x.f0, .string x.f1, .bool false, .string ⟨#[]⟩] 63)); have nk2 := Aside0.mk (keep_alloc nk (.cells #[.int .i64 3, .string ⟨#[]⟩, .slice none 0 0, .bool x.f0, .string x.f1, .bool false, .string ⟨#[]⟩] 63)); have nb := Aside0.mk (below_alloc hb (.cells #[.int .i64 3, .string ⟨#[]⟩, .slice none 0 0, .bool x.f0, .string x.f1, .bool false, .string ⟨#[]⟩] 63)); have HYO := Aside0.mk hp.own_lt; have HYA := Aside0.mk hya; have HYB := Aside0.mk hyb; have HYK := Aside0.mk nk.1; have HYW := Aside0.mk hb.size; clear HZ HK HB HP hp hk hb nz nk hya hyb; have HZ := nz2; have HK := nk2; have HB := nb; have HP := np; clear nz2 nk2 nb np; have hbn : wa.heap.size ≠ w.heap.size := Nat.ne_of_gt HYB.out; have hbn2 : w.heap.size ≠ wa.heap.size := Nat.ne_of_lt HYB.out))
            go_upto_region 15 with (first | (go_at_call 30; (with_reducible refine (take_ok (w0 := w0) (s := s) (L := L) (q := q) (h := HT.out) ?h1 ?h2 ?h3 ?h4 ?h5 ?h6).mono ?_); (case h1 => repeat (first | exact HP.out | apply IsP.alloc | apply IsP.drewN | apply IsP.drew | apply IsP.step1)); (case h2 => exact HI1.out); (case h3 => repeat (first | exact HB.out | apply below_alloc | apply pw_below_drewN | apply below_drew1 | refine below_set ?_ HGE.out)); (case h4 => repeat (first | exact Wants.of_new (by simp) rfl rfl | apply Wants.drewN)); (case h5 => decide); (case h6 => decide); rintro e wb ⟨rfl, hp, hk, hb⟩; have ny := Aside0.mk (KeepBut.blk (o := .cells #[.int .i64 3, .string ⟨#[]⟩, .slice none 0 0, .bool x.f0, .string x.f1, .bool false, .string ⟨#[]⟩] 63 (0, 0)) hk (by repeat (first | exact HY.out | refine blk_alloc ?_ _ | refine blk_drewN ?_ _ | refine blk_drew ?_ | refine blk_far ?_ hne _)) (Nat.ne_of_gt HYA.out) (by simp)); have nz := Aside0.mk (KeepBut.blk (o := .cells #[.int .i64 0, .string ⟨#[]⟩, .slice none 0 0, .bool false, .string ⟨#[]⟩, .bool false, .string ⟨#[]⟩] 63 (0, 0)) hk (by repeat (first | exact HZ.out | refine blk_alloc ?_ _ | refine blk_drewN ?_ _ | refine blk_drew ?_ | refine blk_far ?_ hne _)) hne (by simp)); have nk := Aside0.mk (KeepBut.trans (by repeat (first | exact HK.out | apply KeepBut.set_ | apply keep_drewN | apply keep_drew | apply keep_alloc)) hk (.inl rfl)); have nb := Aside0.mk hb; have np := Aside0.mk hp;  clear HZ HK HB HP hk hb hp; have HZ := nz; have HK := nk; have HB := nb; have HP := np; clear nz nk nb np; clear HY; have HY := ny; clear ny))
            go_wp2_with (first | (go_at_call 74; (with_reducible refine (term_err (w0 := w0) (s := s) (L := L) (q := q) HX2.out ?t1 HI2.out ?t2).mono ?_); (case t1 => repeat (first | exact HP.out | apply IsP.alloc | apply IsP.drewN | apply IsP.drew | apply IsP.step1)); (case t2 => repeat (first | exact HB.out | apply below_alloc | apply pw_below_drewN | apply below_drew1 | refine below_set ?_ HGE.out)); rintro e w2 ⟨rfl, hk, hb⟩; have HKE := Aside0.mk (KeepBut.trans (by repeat (first | exact HK.out | apply KeepBut.set_ | apply keep_drewN | apply keep_drew | apply keep_alloc)) hk (.inl rfl)); have HBE := Aside0.mk hb; clear hk hb))
            exact ⟨rfl, PEnd.of_err ⟨rfl, HKE.out, HBE.out⟩ HR.out⟩
          | ok r =>
            obtain ⟨y, i3⟩ := r
            rw [hy] at hL
            have HR := Aside0.mk hL
            have HX2 := Aside0.mk hy
            clear hL hy
            go_enter Try.func55, Try.ntmps55
            go_upto_region 13 with (first | (go_at_call 54; (with_reducible refine (kind_calls (w0 := w0) (s := s) (L := L) (q := q) ?k1 HI.out).mono ?_); (case k1 => repeat (first | exact HP.out | apply IsP.alloc | apply IsP.drewN | apply IsP.drew | apply IsP.step1)); rintro e wk ⟨rfl, ⟨nd, rfl⟩⟩))
            go_upto_region 14 with (first | (go_at_call 74; (with_reducible refine (term_ok (w0 := w0) (s := s) (L := L) (q := q) HX.out ?t1 HI.out ?t2).mono ?_); (case t1 => repeat (first | exact HP.out | apply IsP.alloc | apply IsP.drewN | apply IsP.drew | apply IsP.step1)); (case t2 => repeat (first | exact HB.out | apply below_alloc | apply pw_below_drewN | apply below_drew1 | refine below_set ?_ HGE.out)); rintro e wa ⟨rfl, hp, hk, hb⟩; have nz := KeepBut.blk (o := .cells #[.int .i64 0, .string ⟨#[]⟩, .slice none 0 0, .bool false, .string ⟨#[]⟩, .bool false, .string ⟨#[]⟩] 63 (0, 0)) hk (by repeat (first | exact HZ.out | refine blk_alloc ?_ _ | refine blk_drewN ?_ _ | refine blk_drew ?_ | refine blk_far ?_ hne _)) hne (by simp); have nk := KeepBut.trans (by repeat (first | exact HK.out | apply KeepBut.set_ | apply keep_drewN | apply keep_drew | apply keep_alloc)) hk (.inl rfl); have hya := hp.lt; have hyb := blk_lt nz; have HY := Aside0.mk (blk_new wa (.cells #[.int .i64 3, .string ⟨#[]⟩, .slice none 0 0, .bool x.f0, .string x.f1, .bool false, .string ⟨#[]⟩] 63)); have nz2 := Aside0.mk (blk_alloc nz (.cells #[.int .i64 3, .string ⟨#[]⟩, .slice none 0 0, .bool x.f0, .string x.f1, .bool false, .string ⟨#[]⟩] 63)); have np := Aside0.mk (hp.alloc (.cells #[.int .i64 3, .string ⟨#[]⟩, .slice none 0 0, .bool x.f0, .string x.f1, .bool false, .string ⟨#[]⟩] 63)); have nk2 := Aside0.mk (keep_alloc nk (.cells #[.int .i64 3, .string ⟨#[]⟩, .slice none 0 0, .bool x.f0, .string x.f1, .bool false, .string ⟨#[]⟩] 63)); have nb := Aside0.mk (below_alloc hb (.cells #[.int .i64 3, .string ⟨#[]⟩, .slice none 0 0, .bool x.f0, .string x.f1, .bool false, .string ⟨#[]⟩] 63)); have HYO := Aside0.mk hp.own_lt; have HYA := Aside0.mk hya; have HYB := Aside0.mk hyb; have HYK := Aside0.mk nk.1; have HYW := Aside0.mk hb.size; clear HZ HK HB HP hp hk hb nz nk hya hyb; have HZ := nz2; have HK := nk2; have HB := nb; have HP := np; clear nz2 nk2 nb np; have hbn : wa.heap.size ≠ w.heap.size := Nat.ne_of_gt HYB.out; have hbn2 : w.heap.size ≠ wa.heap.size := Nat.ne_of_lt HYB.out))
            go_upto_region 15 with (first | (go_at_call 30; (with_reducible refine (take_ok (w0 := w0) (s := s) (L := L) (q := q) (h := HT.out) ?h1 ?h2 ?h3 ?h4 ?h5 ?h6).mono ?_); (case h1 => repeat (first | exact HP.out | apply IsP.alloc | apply IsP.drewN | apply IsP.drew | apply IsP.step1)); (case h2 => exact HI1.out); (case h3 => repeat (first | exact HB.out | apply below_alloc | apply pw_below_drewN | apply below_drew1 | refine below_set ?_ HGE.out)); (case h4 => repeat (first | exact Wants.of_new (by simp) rfl rfl | apply Wants.drewN)); (case h5 => decide); (case h6 => decide); rintro e wb ⟨rfl, hp, hk, hb⟩; have ny := Aside0.mk (KeepBut.blk (o := .cells #[.int .i64 3, .string ⟨#[]⟩, .slice none 0 0, .bool x.f0, .string x.f1, .bool false, .string ⟨#[]⟩] 63 (0, 0)) hk (by repeat (first | exact HY.out | refine blk_alloc ?_ _ | refine blk_drewN ?_ _ | refine blk_drew ?_ | refine blk_far ?_ hne _)) (Nat.ne_of_gt HYA.out) (by simp)); have nz := Aside0.mk (KeepBut.blk (o := .cells #[.int .i64 0, .string ⟨#[]⟩, .slice none 0 0, .bool false, .string ⟨#[]⟩, .bool false, .string ⟨#[]⟩] 63 (0, 0)) hk (by repeat (first | exact HZ.out | refine blk_alloc ?_ _ | refine blk_drewN ?_ _ | refine blk_drew ?_ | refine blk_far ?_ hne _)) hne (by simp)); have nk := Aside0.mk (KeepBut.trans (by repeat (first | exact HK.out | apply KeepBut.set_ | apply keep_drewN | apply keep_drew | apply keep_alloc)) hk (.inl rfl)); have nb := Aside0.mk hb; have np := Aside0.mk hp;  clear HZ HK HB HP hk hb hp; have HZ := nz; have HK := nk; have HB := nb; have HP := np; clear nz nk nb np; clear HY; have HY := ny; clear ny))
            go_wp2_with (first | (go_at_call 74; (with_reducible refine (term_ok (w0 := w0) (s := s) (L := L) (q := q) HX2.out ?t1 HI2.out ?t2).mono ?_); (case t1 => repeat (first | exact HP.out | apply IsP.alloc | apply IsP.drewN | apply IsP.drew | apply IsP.step1)); (case t2 => repeat (first | exact HB.out | apply below_alloc | apply pw_below_drewN | apply below_drew1 | refine below_set ?_ HGE.out)); rintro e wc ⟨rfl, hp, hk, hb⟩; have ny := Aside0.mk (KeepBut.blk (o := .cells #[.int .i64 3, .string ⟨#[]⟩, .slice none 0 0, .bool x.f0, .string x.f1, .bool false, .string ⟨#[]⟩] 63 (0, 0)) hk (by repeat (first | exact HY.out | refine blk_alloc ?_ _ | refine blk_drewN ?_ _ | refine blk_drew ?_ | refine blk_far ?_ hne _)) (Nat.ne_of_gt HYA.out) (by simp)); have nz := Aside0.mk (KeepBut.blk (o := .cells #[.int .i64 0, .string ⟨#[]⟩, .slice none 0 0, .bool false, .string ⟨#[]⟩, .bool false, .string ⟨#[]⟩] 63 (0, 0)) hk (by repeat (first | exact HZ.out | refine blk_alloc ?_ _ | refine blk_drewN ?_ _ | refine blk_drew ?_ | refine blk_far ?_ hne _)) hne (by simp)); have nk := Aside0.mk (KeepBut.trans (by repeat (first | exact HK.out | apply KeepBut.set_ | apply keep_drewN | apply keep_drew | apply keep_alloc)) hk (.inl rfl)); have nb := Aside0.mk hb; have np := Aside0.mk hp;  clear HZ HK HB HP hk hb hp; have HZ := nz; have HK := nk; have HB := nb; have HP := np; clear nz nk nb np; clear HY; have HY := ny; clear ny; obtain ⟨c0, c1, c2, c3, c4, c5, c6, f0, f1, f2, f3, f4, f5, f6⟩ := cells7 HZ.out; obtain ⟨d0, d1, d2, d3, d4, d5, d6, e0, e1, e2, e3, e4, e5, e6⟩ := cells7 HY.out; have hyl := blk_lt HY.out; have hbl := blk_lt HZ.out))
            exact bodyPost_ret (results_single rfl (.cell w.heap.size 63 _ (0, 0) _ rfl (blk7 (blk_far (blk_far HZ.out hbn2 _) hbn2 _) _ _ _ _ _ _ _) Try.underlying63 rfl info63s .nil)) rfl (PEnd.of_ok ⟨_, rfl, ⟨none, 0, rfl, Kd.R_nil _ _ _ _ _⟩, isP7 ((HP.out.far_ (Nat.ne_of_gt HYA.out) (fun k hk => Nat.ne_of_lt (HYO.out k hk)) _).far_ (Nat.ne_of_gt HYA.out) (fun k hk => Nat.ne_of_lt (HYO.out k hk)) _) hne (fun k hk => Nat.ne_of_lt (hol.out k hk)) _ _ _ _ _ _ _, keep7 (keep_new (keep_new HK.out HYK.out _) HYK.out _) (Nat.le_refl _) _ _ _ _ _ _ _, below7 ((HB.out.setCell HYW.out _).setCell HYW.out _) hge _ _ _ _ _ _ _⟩ HR.out)
    · have hL : literalP c i = match atomP c i with | .error a => .error a | .ok (x, i') => .ok (⟨1, x, z61, z61⟩, i') := by unfold literalP; rw [if_neg (by omega), if_pos h1, if_neg (fun h => h.elim (fun h => by omega) (fun h => h14 h.2))]; rfl
      have h14b : ((c.o.k : Int) == 14) = false := beq_eq_false_iff_ne.2 (by omega)
      clear h14 hn hn'
      unfold atomP at hL
      have hi2 : i + 1 ≤ c.T.length := by omega
      have HI3 := Aside0.mk hi2
      have ht : takeP c i [1] = .ok (c.at_ i, i + 1) := by unfold takeP; rw [if_pos (by rw [h1]; decide)]
      rw [ht] at hL
      simp only at hL
      have HT := Aside0.mk ht
      have hfd := fun w => field71_1 (.int .i64 ((c.at_ i).k : Int)) (.string (c.at_ i).t) (.int .i64 ((c.at_ i).a : Int)) (.int .i64 ((c.at_ i).e : Int)) w
      clear ht hi2 h1
      cases ha : argsP c (i + 1) with
      | error a =>
        rw [ha] at hL
        have HR := Aside0.mk hL
        have HA := Aside0.mk ha
        clear hL ha
        go_enter Try.func55, Try.ntmps55
        go_upto_region 9 with (first | (go_at_call 54; (with_reducible refine (kind_calls (w0 := w0) (s := s) (L := L) (q := q) ?k1 HI.out).mono ?_); (case k1 => repeat (first | exact HP.out | apply IsP.alloc | apply IsP.drewN | apply IsP.drew | apply IsP.step1)); rintro e wk ⟨rfl, ⟨nd, rfl⟩⟩))
        go_wp2_with (first | (go_at_call 30; (with_reducible refine (take_ok (w0 := w0) (s := s) (L := L) (q := q) (h := HT.out) ?h1 ?h2 ?h3 ?h4 ?h5 ?h6).mono ?_); (case h1 => repeat (first | exact HP.out | apply IsP.alloc | apply IsP.drewN | apply IsP.drew | apply IsP.step1)); (case h2 => exact HI.out); (case h3 => repeat (first | exact HB.out | apply below_alloc | apply pw_below_drewN | apply below_drew1 | refine below_set ?_ HGE.out)); (case h4 => repeat (first | exact Wants.of_new (by simp) rfl rfl | apply Wants.drewN)); (case h5 => decide); (case h6 => decide); rintro e w2 ⟨rfl, hp, hk, hb⟩; have nz := Aside0.mk (KeepBut.blk (o := .cells #[.int .i64 0, .string ⟨#[]⟩, .slice none 0 0, .bool false, .string ⟨#[]⟩, .bool false, .string ⟨#[]⟩] 63 (0, 0)) hk (by repeat (first | exact HZ.out | refine blk_alloc ?_ _ | refine blk_drewN ?_ _ | refine blk_drew ?_ | refine blk_far ?_ hne _)) hne (by simp)); have nk := Aside0.mk (KeepBut.trans (by repeat (first | exact HK.out | apply KeepBut.set_ | apply keep_drewN | apply keep_drew | apply keep_alloc)) hk (.inl rfl)); have nb := Aside0.mk hb; have np := Aside0.mk hp;  clear HZ HK HB HP hk hb hp; have HZ := nz; have HK := nk; have HB := nb; have HP := np; clear nz nk nb np) | (go_at_call 53; (with_reducible refine (args_err (w0 := w0) (s := s) (L := L) (q := q) HA.out ?a1 HI3.out ?a2).mono ?_); (case a1 => repeat (first | exact HP.out | apply IsP.alloc | apply IsP.drewN | apply IsP.drew | apply IsP.step1)); (case a2 => repeat (first | exact HB.out | apply below_alloc | apply pw_below_drewN | apply below_drew1 | refine below_set ?_ HGE.out)); rintro e w2 ⟨rfl, hk, hb⟩; have HKE := Aside0.mk (KeepBut.trans (by repeat (first | exact HK.out | apply KeepBut.set_ | apply keep_drewN | apply keep_drew | apply keep_alloc)) hk (.inl rfl)); have HBE := Aside0.mk hb; clear hk hb))
        exact ⟨rfl, PEnd.of_err ⟨rfl, HKE.out, HBE.out⟩ HR.out⟩
      | ok r2 =>
        obtain ⟨l, i3⟩ := r2
        rw [ha] at hL
        have HR := Aside0.mk hL
        have HA := Aside0.mk ha
        clear hL ha
        go_enter Try.func55, Try.ntmps55
        go_upto_region 9 with (first | (go_at_call 54; (with_reducible refine (kind_calls (w0 := w0) (s := s) (L := L) (q := q) ?k1 HI.out).mono ?_); (case k1 => repeat (first | exact HP.out | apply IsP.alloc | apply IsP.drewN | apply IsP.drew | apply IsP.step1)); rintro e wk ⟨rfl, ⟨nd, rfl⟩⟩))
        go_wp2_with (first | (go_at_call 30; (with_reducible refine (take_ok (w0 := w0) (s := s) (L := L) (q := q) (h := HT.out) ?h1 ?h2 ?h3 ?h4 ?h5 ?h6).mono ?_); (case h1 => repeat (first | exact HP.out | apply IsP.alloc | apply IsP.drewN | apply IsP.drew | apply IsP.step1)); (case h2 => exact HI.out); (case h3 => repeat (first | exact HB.out | apply below_alloc | apply pw_below_drewN | apply below_drew1 | refine below_set ?_ HGE.out)); (case h4 => repeat (first | exact Wants.of_new (by simp) rfl rfl | apply Wants.drewN)); (case h5 => decide); (case h6 => decide); rintro e w2 ⟨rfl, hp, hk, hb⟩; have nz := Aside0.mk (KeepBut.blk (o := .cells #[.int .i64 0, .string ⟨#[]⟩, .slice none 0 0, .bool false, .string ⟨#[]⟩, .bool false, .string ⟨#[]⟩] 63 (0, 0)) hk (by repeat (first | exact HZ.out | refine blk_alloc ?_ _ | refine blk_drewN ?_ _ | refine blk_drew ?_ | refine blk_far ?_ hne _)) hne (by simp)); have nk := Aside0.mk (KeepBut.trans (by repeat (first | exact HK.out | apply KeepBut.set_ | apply keep_drewN | apply keep_drew | apply keep_alloc)) hk (.inl rfl)); have nb := Aside0.mk hb; have np := Aside0.mk hp;  clear HZ HK HB HP hk hb hp; have HZ := nz; have HK := nk; have HB := nb; have HP := np; clear nz nk nb np) | (go_at_call 53; (with_reducible refine (args_ok (w0 := w0) (s := s) (L := L) (q := q) HA.out ?a1 HI3.out ?a2).mono ?_); (case a1 => repeat (first | exact HP.out | apply IsP.alloc | apply IsP.drewN | apply IsP.drew | apply IsP.step1)); (case a2 => repeat (first | exact HB.out | apply below_alloc | apply pw_below_drewN | apply below_drew1 | refine below_set ?_ HGE.out)); rintro e w2 ⟨Av, cv, rfl, hv, hp, hk, hb⟩; have nz := Aside0.mk (KeepBut.blk (o := .cells #[.int .i64 0, .string ⟨#[]⟩, .slice none 0 0, .bool false, .string ⟨#[]⟩, .bool false, .string ⟨#[]⟩] 63 (0, 0)) hk (by repeat (first | exact HZ.out | refine blk_alloc ?_ _ | refine blk_drewN ?_ _ | refine blk_drew ?_ | refine blk_far ?_ hne _)) hne (by simp)); have nk := Aside0.mk (KeepBut.trans (by repeat (first | exact HK.out | apply KeepBut.set_ | apply keep_drewN | apply keep_drew | apply keep_alloc)) hk (.inl rfl)); have nb := Aside0.mk hb; have np := Aside0.mk hp; have HV := Aside0.mk (Kd.R_lower (Kd.R_mono (ok' := fun k => k ≠ w.heap.size) (Kd.R_bound hv) (fun k hk => Ne.symm (Nat.ne_of_lt (Nat.lt_of_lt_of_le (blk_lt (o := .cells #[.int .i64 0, .string ⟨#[]⟩, .slice none 0 0, .bool false, .string ⟨#[]⟩, .bool false, .string ⟨#[]⟩] 63 (0, 0)) (by repeat (first | exact HZ.out | refine blk_alloc ?_ _ | refine blk_drewN ?_ _ | refine blk_drew ?_ | refine blk_far ?_ hne _))) hk.2.1)))) (keep_size (by repeat (first | exact HK.out | apply KeepBut.set_ | apply keep_drewN | apply keep_drew | apply keep_alloc)))); clear hv; clear HZ HK HB HP hk hb hp; have HZ := nz; have HK := nk; have HB := nb; have HP := np; clear nz nk nb np; obtain ⟨c0, c1, c2, c3, c4, c5, c6, f0, f1, f2, f3, f4, f5, f6⟩ := cells7 HZ.out))
        exact bodyPost_ret (results_single rfl (.cell w.heap.size 63 _ (0, 0) _ rfl (blk7 HZ.out _ _ _ _ _ _ _) Try.underlying63 rfl info63s .nil)) rfl (PEnd.of_ok ⟨_, rfl, ⟨Av, cv, rfl, Kd.R_mono (R7 HV.out (fun k hk => hk) _ _ _ _ _ _ _) (fun _ _ => trivial)⟩, isP7 HP.out hne (fun k hk => Nat.ne_of_lt (hol.out k hk)) _ _ _ _ _ _ _, keep7 HK.out (Nat.le_refl _) _ _ _ _ _ _ _, below7 HB.out hge _ _ _ _ _ _ _⟩ HR.out)
theorem literal_calls {w0 w : World} {g : Nat} {s : ByteArray} {L : Value} {c : Src} {i : Nat} {q : List Value} (hp : IsP w0 w g s L c i q) (hi : i ≤ c.T.length) (hB : Below w0.heap.size w0 w) :
    Calls Try.prog 55 #[.pointer (some ⟨g, 0, none⟩)] w (LitPost w0 w g s L c i q) := by
  by_cases h7 : (c.at_ i).k = 7
  · exact literal_not hp hi hB h7
  · by_cases h1 : (c.at_ i).k = 1
    · exact literal_at hp hi hB h1
    · by_cases h2 : (c.at_ i).k = 2 ∨ (c.at_ i).k = 3 ∨ (c.at_ i).k = 4
      · exact literal_un hp hi hB h2
      · exact literal_bad hp hi hB h7 h1 h2
end Go.Proofs.Ytdodajpiidkglaa.K
